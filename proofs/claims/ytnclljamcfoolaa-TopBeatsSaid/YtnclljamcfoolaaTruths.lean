/- Walks of package meter: the iterator over all truths of an ear without readings. -/
import Derived.Test.YtnclljamcfoolaaIter
namespace Go.Proofs.Ytnclljamcfoolaa
open Go.RowKit Go.Shelf
attribute [local go_sem] Oper.semAt_some
set_option linter.unusedVariables false

structure T3 where
  a : Int
  b : Int
  c : Int
deriving DecidableEq
@[reducible] def T3.v (t : T3) : Value := .agg #[.int .i64 t.a, .int .i64 t.b, .int .i64 t.c]
def T3.cs (t : T3) : List Value := [.int .i64 t.a, .int .i64 t.b, .int .i64 t.c]
def T3.set (t : T3) (i : Nat) (n : Int) : T3 := if i = 0 then ⟨n, t.b, t.c⟩ else if i = 1 then ⟨t.a, n, t.c⟩ else ⟨t.a, t.b, n⟩
/-- all whole numbers of a range, ascending -/
def upto (x : Rg) : List Int := (List.range (x.mx - x.mn + 1).toNat).map fun (j : Nat) => x.mn + (j : Int)
theorem T3.set_set (t : T3) (i : Nat) (n v : Int) : (t.set i n).set i v = t.set i v := by
  unfold T3.set
  (repeat' split) <;> simp_all
def truthsFrom (ok : T3 → Bool) : List Rg → Nat → T3 → List T3
  | [], _, t => if ok t then [t] else []
  | x :: xs, i, t => (upto x).flatMap fun n => truthsFrom ok xs (i + 1) (t.set i n)
/-- the first j numbers of a range -/
def uptoN (x : Rg) (j : Nat) : List Int := (List.range j).map fun (j : Nat) => x.mn + (j : Int)
theorem uptoN_succ (x : Rg) (j : Nat) : uptoN x (j + 1) = uptoN x j ++ [x.mn + (j : Int)] := by simp [uptoN, List.range_succ]

structure Fx (own : World → Nat → Prop) (e : Ear) (c1 : Nat) (A2 : Option Addr) (n2 c2 : Nat) (be bl by_ bn l b o : Nat) (W : World) : Prop where
  ear : ∀ j, W.cell? ⟨be, j, none⟩ = #[Value.int IntKind.i64 e.slack, Value.slice (some ⟨b, o, none⟩) e.tones.length c1, Value.slice A2 n2 c2][j]?
  lb : W.cell? ⟨bl, 0, none⟩ = some (.slice none 0 0)
  yb : W.cell? ⟨by_, 0, none⟩ = some (.func (.yield l) #[] #[])
  nb : W.cell? ⟨bn, 0, none⟩ = some (.func (.func 105) #[] #[.pointer (some ⟨be, 0, none⟩), .pointer (some ⟨bl, 0, none⟩), .pointer (some ⟨by_, 0, none⟩), .pointer (some ⟨bn, 0, none⟩)])
  row : ∀ i (h : i < e.tones.length), W.cell? ⟨b, o + i * 2, none⟩ = some (.int .i64 e.tones[i].mn) ∧ W.cell? ⟨b, o + i * 2 + 1, none⟩ = some (.int .i64 e.tones[i].mx)
  lts : be < W.heap.size ∧ bl < W.heap.size ∧ by_ < W.heap.size ∧ bn < W.heap.size ∧ b < W.heap.size
  nos : ¬ own W be ∧ ¬ own W bl ∧ ¬ own W by_ ∧ ¬ own W bn ∧ ¬ own W b
theorem Fx.step {own : World → Nat → Prop} {e : Ear} {c1 : Nat} {A2 : Option Addr} {n2 c2 be bl by_ bn l b o : Nat} {W W' : World} (h : Fx own e c1 A2 n2 c2 be bl by_ bn l b o W) (hs : BodyStep own W W') : Fx own e c1 A2 n2 c2 be bl by_ bn l b o W' := by
  obtain ⟨l1, l2, l3, l4, l5⟩ := h.lts
  obtain ⟨o1, o2, o3, o4, o5⟩ := h.nos
  have hz := hs.size
  exact ⟨fun j => (hs.cell l1 o1 j).trans (h.ear j), (hs.cell l2 o2 0).trans h.lb, (hs.cell l3 o3 0).trans h.yb, (hs.cell l4 o4 0).trans h.nb, fun i hi => ⟨(hs.cell l5 o5 _).trans (h.row i hi).1, (hs.cell l5 o5 _).trans (h.row i hi).2⟩,
    ⟨by omega, by omega, by omega, by omega, by omega⟩, ⟨hs.not_own l1 o1, hs.not_own l2 o2, hs.not_own l3 o3, hs.not_own l4 o4, hs.not_own l5 o5⟩⟩

set_option maxRecDepth 100000 in
set_option maxHeartbeats 2000000 in
theorem next_nil (F : Fence) (h105 : F.fn 105) (hro : F.round = none) (hd : F.depth = none) (own : World → Nat → Prop) (J : List T3 → World → Prop) (B N : Nat) (ho : OwnOk own) (hWf : ∀ s W, J s W → WfOwn own W) (hJs : ∀ s W W', J s W → IterStep own B W W' → J s W') (e : Ear) (c1 : Nat) (A2 : Option Addr) (n2 c2 be bl by_ bn l b o : Nat)
    (hY : ∀ m pre x W1, J pre W1 → pre.length < N → YieldAt F m Try.prog l #[T3.v x] W1 fun ed W' => ed = .returned (.bool true) ∧ J (pre ++ [x]) W' ∧ BodyStep own W1 W')
    (m : Nat) (t : T3) (pre : List T3) (W : World) (hF : Fx own e c1 A2 n2 c2 be bl by_ bn l b o W) (hJ : J pre W) (hN : pre.length < N) (hB : B ≤ W.heap.size) :
    CallsIn F m Try.prog 105 #[T3.v t, .int .i64 e.tones.length, .pointer (some ⟨be, 0, none⟩), .pointer (some ⟨bl, 0, none⟩), .pointer (some ⟨by_, 0, none⟩), .pointer (some ⟨bn, 0, none⟩)] W fun ed W' => ed = .returned (.bool true) ∧ J (pre ++ [t]) W' ∧ BodyStep own W W' := by
  obtain ⟨l1, l2, l3, l4, l5⟩ := hF.lts
  have hF0 := hF.ear
  have hF1 := hF.lb
  have hF2 := hF.yb
  refine callsIn_of_wp Try.func105 rfl h105 ?_ hro
  simp only [Try.ntmps105, List.size_toArray, List.length_cons, List.length_nil, Nat.reduceAdd, Nat.reduceSub, Array.replicate_succ, Array.replicate_zero, List.push_toArray, List.append_toArray, List.nil_append, List.cons_append]
  gi_wp2
  generalize hV : W.alloc _ = V
  generalize hg_ : W.heap.size = g1
  obtain ⟨hB0_, Hg1, kg1, fg1, lg1, bg1⟩ := gen1 W _ _ hV hg_
  have hJV : J pre V := by rw [← hV]; exact hJs _ _ _ hJ (IterStep.alloc _ _ _ _)
  have hS : BodyStep own W V := BodyStep.of_same ho (hWf _ _ hJ) hB0_.size (fun k hk => hB0_.block k hk)
  have hF0 := (hF.step hS).ear
  have hF1 := (hF.step hS).lb
  have hF2 := (hF.step hS).yb
  have HS := Lib.hid hS
  have HF := Lib.hid hF
  clear hV hg_ hB0_ hS hF bg1 Hg1
  gi_loopw [19] (fun i wr => i = .int .i64 0 ∧ wr = V) (fun _ _ => 0)
  case atStart => exact ⟨rfl, rfl⟩
  case round =>
    obtain ⟨rfl, rfl⟩ := hrel
    obtain ⟨fn, tmps, assign, body, hy, hR⟩ := hY (m - 1) pre t _ hJV hN
    gi_wp2
    refine hR.mono ?_
    rintro ed W' ⟨rfl, hJ', hk'⟩
    gi_wp2
    go_ret
    exact ⟨rfl, hJ', HS.out.trans hk'⟩

theorem uptoN_le (x : Rg) {j k : Nat} (h : j ≤ k) : ∃ r, uptoN x k = uptoN x j ++ r := by
  obtain ⟨d, rfl⟩ : ∃ d, k = j + d := ⟨k - j, by omega⟩
  clear h
  induction d with
  | zero => exact ⟨[], by simp⟩
  | succ d ih =>
    obtain ⟨r, hr⟩ := ih
    exact ⟨r ++ [x.mn + ((j + d : Nat) : Int)], by rw [← Nat.add_assoc, uptoN_succ, hr, List.append_assoc]⟩
theorem room_next {x : Rg} {f : Int → List T3} {pre : List T3} {j c N : Nat} (hj : j + 1 ≤ c) (h : pre.length + ((uptoN x c).flatMap f).length ≤ N) : (pre ++ (uptoN x j).flatMap f).length + (f (x.mn + (j : Int))).length ≤ N := by
  obtain ⟨r, hr⟩ := uptoN_le x hj
  rw [hr, uptoN_succ] at h
  simp only [List.flatMap_append, List.length_append, List.flatMap_cons, List.flatMap_nil, List.append_nil] at h ⊢
  omega
theorem uptoN_zero (x : Rg) : uptoN x 0 = [] := rfl
theorem upto_eq (x : Rg) : upto x = uptoN x (x.mx - x.mn + 1).toNat := rfl

set_option maxRecDepth 100000 in
set_option maxHeartbeats 4000000 in
theorem next_cons0 (F : Fence) (h105 : F.fn 105) (hro : F.round = none) (hd : F.depth = none) (own : World → Nat → Prop) (J : List T3 → World → Prop) (B N : Nat) (ho : OwnOk own) (hWf : ∀ s W, J s W → WfOwn own W) (hJs : ∀ s W W', J s W → IterStep own B W W' → J s W') (e : Ear) (c1 : Nat) (A2 : Option Addr) (n2 c2 be bl by_ bn l b o : Nat)
    (hlt : 0 < e.tones.length) (x : Rg) (hx : e.tones[0] = x) (hb : 1 ≤ x.mn ∧ x.mn ≤ 100000 ∧ 1 ≤ x.mx ∧ x.mx ≤ 100000) (rest : List Rg)
    (ih : ∀ (m : Nat) (t : T3) (pre : List T3) (W : World), Fx own e c1 A2 n2 c2 be bl by_ bn l b o W → J pre W → pre.length + (truthsFrom (fun _ => true) rest (0 + 1) t).length ≤ N → B ≤ W.heap.size →
      CallsIn F m Try.prog 105 #[T3.v t, .int .i64 1, .pointer (some ⟨be, 0, none⟩), .pointer (some ⟨bl, 0, none⟩), .pointer (some ⟨by_, 0, none⟩), .pointer (some ⟨bn, 0, none⟩)] W fun ed W' => ed = .returned (.bool true) ∧ J (pre ++ truthsFrom (fun _ => true) rest (0 + 1) t) W' ∧ BodyStep own W W')
    (m : Nat) (t : T3) (pre : List T3) (W : World) (hF : Fx own e c1 A2 n2 c2 be bl by_ bn l b o W) (hJ : J pre W) (hN : pre.length + (truthsFrom (fun _ => true) (x :: rest) 0 t).length ≤ N) (hB : B ≤ W.heap.size) :
    CallsIn F m Try.prog 105 #[T3.v t, .int .i64 0, .pointer (some ⟨be, 0, none⟩), .pointer (some ⟨bl, 0, none⟩), .pointer (some ⟨by_, 0, none⟩), .pointer (some ⟨bn, 0, none⟩)] W fun ed W' => ed = .returned (.bool true) ∧ J (pre ++ truthsFrom (fun _ => true) (x :: rest) 0 t) W' ∧ BodyStep own W W' := by
  have hdd : ∀ k : Nat, (F.depth.isSome = true → 1 ≤ k) := fun k h => by rw [hd] at h; cases h
  obtain ⟨l1, l2, l3, l4, l5⟩ := hF.lts
  refine callsIn_of_wp Try.func105 rfl h105 ?_ hro
  simp only [Try.ntmps105, List.size_toArray, List.length_cons, List.length_nil, Nat.reduceAdd, Nat.reduceSub, Array.replicate_succ, Array.replicate_zero, List.push_toArray, List.append_toArray, List.nil_append, List.cons_append]
  have hne : ((0 : Int) == (e.tones.length : Int)) = false := by simp; omega
  have hF0 := hF.ear
  have hr0 := (hF.row 0 hlt).1
  have hr1 := (hF.row 0 hlt).2
  rw [hx] at hr0 hr1
  simp only [Nat.zero_mul, Nat.add_zero] at hr0 hr1
  have a0 : (0 : Int) ≤ (0 : Int) := by omega
  have a1 : (0 : Int) < (e.tones.length : Int) := by omega
  gi_wp2
  generalize hV : W.alloc _ = V
  generalize hg_ : W.heap.size = g1
  have hnV : ¬ own V g1 := by rw [← hV, ← hg_]; exact not_own_new ho W (hWf _ _ hJ) _
  have hJV : J pre V := by rw [← hV]; exact hJs _ _ _ hJ (IterStep.alloc _ _ _ _)
  have hSV : BodyStep own W V := by rw [← hV]; exact BodyStep.alloc_new ho (hWf _ _ hJ) (BodyStep.refl own W) _
  obtain ⟨hB0_, Hg1, kg1, fg1, lg1, bg1⟩ := gen1 W _ _ hV hg_
  have hgW : W.heap.size ≤ g1 := bg1
  have hcnt := Lib.hid (show pre.length + ((uptoN x (x.mx - x.mn + 1).toNat).flatMap fun n => truthsFrom (fun _ => true) rest (0 + 1) (t.set 0 n)).length ≤ N from hN)
  have HFx := Lib.hid hF
  clear hV hg_ hB0_ kg1 fg1 hF hF0 hr0 hr1 bg1
  gi_loopw [11] (fun i wr => ∃ j : Nat, j ≤ (x.mx - x.mn + 1).toNat ∧ i = .int .i64 (x.mn + (j : Int)) ∧ BodyStep own W wr ∧ (∃ t' : T3, wr.heap[g1]? = some (.cells #[.int .i64 t'.a, .int .i64 t'.b, .int .i64 t'.c] 93 (0, 0)) ∧ (∀ v, t'.set 0 v = t.set 0 v) ∧ ¬ own wr g1) ∧
      J (pre ++ (uptoN x j).flatMap fun n => truthsFrom (fun _ => true) rest (0 + 1) (t.set 0 n)) wr)
    (fun i _ => (x.mx + 1 - intOf i).toNat)
  case atStart => exact ⟨0, Nat.zero_le _, by simp, hSV, ⟨t, Hg1, fun _ => rfl, hnV⟩, by simpa [uptoN] using hJV⟩
  case round =>
    obtain ⟨j, hj, rfl, hSw, ⟨t', Hw, ht', hnw⟩, hJw⟩ := hrel
    have hFw := HFx.out.step hSw
    have hF0 := hFw.ear
    have hFn := hFw.nb
    have hr0 := (hFw.row 0 hlt).1
    have hr1 := (hFw.row 0 hlt).2
    rw [hx] at hr0 hr1
    simp only [Nat.zero_mul, Nat.add_zero] at hr0 hr1
    have kg := fun k => cell_of_row wr g1 k _ _ _ Hw
    have fg := fun k => frozen_row Hw k
    have HFw := Lib.hid hFw
    clear hFw
    by_cases hjl : x.mn + (j : Int) ≤ x.mx
    · have hdl : decide (x.mn + (j : Int) ≤ x.mx) = true := decide_eq_true hjl
      have e2 : (⟨x.mn + (j : Int), t'.b, t'.c⟩ : T3) = t.set 0 (x.mn + (j : Int)) := by rw [← ht']; rfl
      have HE := Lib.hid e2
      clear e2
      gi_wp2
      have hwr : Wrote wr (wr.setCell ⟨g1, 0, none⟩ (.int .i64 (x.mn + (j : Int)))) g1 := wrote_setCell _ _ _ _
      have hs2 : BodyStep own W (wr.setCell ⟨g1, 0, none⟩ (.int .i64 (x.mn + (j : Int)))) := BodyStep.wrote ho (hWf _ _ hJw) hSw hwr hgW hnw
      refine (ih (m - 1) ⟨x.mn + (j : Int), t'.b, t'.c⟩ (pre ++ (uptoN x j).flatMap fun n => truthsFrom (fun _ => true) rest (0 + 1) (t.set 0 n)) _ (HFx.out.step hs2) (hJs _ _ _ hJw (IterStep.wrote hwr hnw (Nat.le_trans hB hgW))) (by rw [HE.out]; exact room_next (f := fun n => truthsFrom (fun _ => true) rest (0 + 1) (t.set 0 n)) (by omega) hcnt.out) (by have := hs2.size; omega)).mono ?_
      rintro ed W3 ⟨rfl, hJ3, hs3⟩
      gi_wp2
      go_roundw
      case rel =>
        have hg3 : W3.heap[g1]? = (wr.setCell ⟨g1, 0, none⟩ (.int .i64 (x.mn + (j : Int)))).heap[g1]? := hs3.keep g1 (by simp; exact (Array.getElem?_eq_some_iff.1 Hw).1) (fun h => hnw ((IterStep.own ho (hWf _ _ hJw) (IterStep.wrote (B := 0) hwr hnw (Nat.zero_le _)) g1).1 h))
        refine ⟨j + 1, by omega, by go_num, hs2.trans hs3, ⟨⟨x.mn + (j : Int), t'.b, t'.c⟩, hg3.trans ?_, ?_, ?_⟩, ?_⟩
        · rw [setCell_eq_setRow wr g1 0 _ _ _ _ Hw]; exact setRow_heap Hw
        · intro v; rw [HE.out, T3.set_set]
        · exact hs3.not_own (by simp; exact (Array.getElem?_eq_some_iff.1 Hw).1) (fun h => hnw ((IterStep.own ho (hWf _ _ hJw) (IterStep.wrote (B := 0) hwr hnw (Nat.zero_le _)) g1).1 h))
        · rw [uptoN_succ, List.flatMap_append, ← List.append_assoc]
          rw [HE.out] at hJ3
          simpa using hJ3
      case measure => simp [intOf]; omega
    · have hdl : decide (x.mn + (j : Int) ≤ x.mx) = false := decide_eq_false hjl
      gi_wp2
      go_ret
      obtain rfl : j = (x.mx - x.mn + 1).toNat := by omega
      exact ⟨rfl, hJw, hSw⟩


set_option maxRecDepth 100000 in
set_option maxHeartbeats 4000000 in
theorem next_cons1 (F : Fence) (h105 : F.fn 105) (hro : F.round = none) (hd : F.depth = none) (own : World → Nat → Prop) (J : List T3 → World → Prop) (B N : Nat) (ho : OwnOk own) (hWf : ∀ s W, J s W → WfOwn own W) (hJs : ∀ s W W', J s W → IterStep own B W W' → J s W') (e : Ear) (c1 : Nat) (A2 : Option Addr) (n2 c2 be bl by_ bn l b o : Nat)
    (hlt : 1 < e.tones.length) (x : Rg) (hx : e.tones[1] = x) (hb : 1 ≤ x.mn ∧ x.mn ≤ 100000 ∧ 1 ≤ x.mx ∧ x.mx ≤ 100000) (rest : List Rg)
    (ih : ∀ (m : Nat) (t : T3) (pre : List T3) (W : World), Fx own e c1 A2 n2 c2 be bl by_ bn l b o W → J pre W → pre.length + (truthsFrom (fun _ => true) rest (1 + 1) t).length ≤ N → B ≤ W.heap.size →
      CallsIn F m Try.prog 105 #[T3.v t, .int .i64 2, .pointer (some ⟨be, 0, none⟩), .pointer (some ⟨bl, 0, none⟩), .pointer (some ⟨by_, 0, none⟩), .pointer (some ⟨bn, 0, none⟩)] W fun ed W' => ed = .returned (.bool true) ∧ J (pre ++ truthsFrom (fun _ => true) rest (1 + 1) t) W' ∧ BodyStep own W W')
    (m : Nat) (t : T3) (pre : List T3) (W : World) (hF : Fx own e c1 A2 n2 c2 be bl by_ bn l b o W) (hJ : J pre W) (hN : pre.length + (truthsFrom (fun _ => true) (x :: rest) 1 t).length ≤ N) (hB : B ≤ W.heap.size) :
    CallsIn F m Try.prog 105 #[T3.v t, .int .i64 1, .pointer (some ⟨be, 0, none⟩), .pointer (some ⟨bl, 0, none⟩), .pointer (some ⟨by_, 0, none⟩), .pointer (some ⟨bn, 0, none⟩)] W fun ed W' => ed = .returned (.bool true) ∧ J (pre ++ truthsFrom (fun _ => true) (x :: rest) 1 t) W' ∧ BodyStep own W W' := by
  have hdd : ∀ k : Nat, (F.depth.isSome = true → 1 ≤ k) := fun k h => by rw [hd] at h; cases h
  obtain ⟨l1, l2, l3, l4, l5⟩ := hF.lts
  refine callsIn_of_wp Try.func105 rfl h105 ?_ hro
  simp only [Try.ntmps105, List.size_toArray, List.length_cons, List.length_nil, Nat.reduceAdd, Nat.reduceSub, Array.replicate_succ, Array.replicate_zero, List.push_toArray, List.append_toArray, List.nil_append, List.cons_append]
  have hne : ((1 : Int) == (e.tones.length : Int)) = false := by simp; omega
  have hF0 := hF.ear
  have hr0 := (hF.row 1 hlt).1
  have hr1 := (hF.row 1 hlt).2
  rw [hx] at hr0 hr1
  have a0 : (0 : Int) ≤ (1 : Int) := by omega
  have a1 : (1 : Int) < (e.tones.length : Int) := by omega
  gi_wp2
  generalize hV : W.alloc _ = V
  generalize hg_ : W.heap.size = g1
  have hnV : ¬ own V g1 := by rw [← hV, ← hg_]; exact not_own_new ho W (hWf _ _ hJ) _
  have hJV : J pre V := by rw [← hV]; exact hJs _ _ _ hJ (IterStep.alloc _ _ _ _)
  have hSV : BodyStep own W V := by rw [← hV]; exact BodyStep.alloc_new ho (hWf _ _ hJ) (BodyStep.refl own W) _
  obtain ⟨hB0_, Hg1, kg1, fg1, lg1, bg1⟩ := gen1 W _ _ hV hg_
  have hgW : W.heap.size ≤ g1 := bg1
  have hcnt := Lib.hid (show pre.length + ((uptoN x (x.mx - x.mn + 1).toNat).flatMap fun n => truthsFrom (fun _ => true) rest (1 + 1) (t.set 1 n)).length ≤ N from hN)
  have HFx := Lib.hid hF
  clear hV hg_ hB0_ kg1 fg1 hF hF0 hr0 hr1 bg1
  gi_loopw [11] (fun i wr => ∃ j : Nat, j ≤ (x.mx - x.mn + 1).toNat ∧ i = .int .i64 (x.mn + (j : Int)) ∧ BodyStep own W wr ∧ (∃ t' : T3, wr.heap[g1]? = some (.cells #[.int .i64 t'.a, .int .i64 t'.b, .int .i64 t'.c] 93 (0, 0)) ∧ (∀ v, t'.set 1 v = t.set 1 v) ∧ ¬ own wr g1) ∧
      J (pre ++ (uptoN x j).flatMap fun n => truthsFrom (fun _ => true) rest (1 + 1) (t.set 1 n)) wr)
    (fun i _ => (x.mx + 1 - intOf i).toNat)
  case atStart => exact ⟨0, Nat.zero_le _, by simp, hSV, ⟨t, Hg1, fun _ => rfl, hnV⟩, by simpa [uptoN] using hJV⟩
  case round =>
    obtain ⟨j, hj, rfl, hSw, ⟨t', Hw, ht', hnw⟩, hJw⟩ := hrel
    have hFw := HFx.out.step hSw
    have hF0 := hFw.ear
    have hFn := hFw.nb
    have hr0 := (hFw.row 1 hlt).1
    have hr1 := (hFw.row 1 hlt).2
    rw [hx] at hr0 hr1
    have kg := fun k => cell_of_row wr g1 k _ _ _ Hw
    have fg := fun k => frozen_row Hw k
    have HFw := Lib.hid hFw
    clear hFw
    by_cases hjl : x.mn + (j : Int) ≤ x.mx
    · have hdl : decide (x.mn + (j : Int) ≤ x.mx) = true := decide_eq_true hjl
      have e2 : (⟨t'.a, x.mn + (j : Int), t'.c⟩ : T3) = t.set 1 (x.mn + (j : Int)) := by rw [← ht']; rfl
      have HE := Lib.hid e2
      clear e2
      gi_wp2
      have hwr : Wrote wr (wr.setCell ⟨g1, 1, none⟩ (.int .i64 (x.mn + (j : Int)))) g1 := wrote_setCell _ _ _ _
      have hs2 : BodyStep own W (wr.setCell ⟨g1, 1, none⟩ (.int .i64 (x.mn + (j : Int)))) := BodyStep.wrote ho (hWf _ _ hJw) hSw hwr hgW hnw
      refine (ih (m - 1) ⟨t'.a, x.mn + (j : Int), t'.c⟩ (pre ++ (uptoN x j).flatMap fun n => truthsFrom (fun _ => true) rest (1 + 1) (t.set 1 n)) _ (HFx.out.step hs2) (hJs _ _ _ hJw (IterStep.wrote hwr hnw (Nat.le_trans hB hgW))) (by rw [HE.out]; exact room_next (f := fun n => truthsFrom (fun _ => true) rest (1 + 1) (t.set 1 n)) (by omega) hcnt.out) (by have := hs2.size; omega)).mono ?_
      rintro ed W3 ⟨rfl, hJ3, hs3⟩
      gi_wp2
      go_roundw
      case rel =>
        have hg3 : W3.heap[g1]? = (wr.setCell ⟨g1, 1, none⟩ (.int .i64 (x.mn + (j : Int)))).heap[g1]? := hs3.keep g1 (by simp; exact (Array.getElem?_eq_some_iff.1 Hw).1) (fun h => hnw ((IterStep.own ho (hWf _ _ hJw) (IterStep.wrote (B := 0) hwr hnw (Nat.zero_le _)) g1).1 h))
        refine ⟨j + 1, by omega, by go_num, hs2.trans hs3, ⟨⟨t'.a, x.mn + (j : Int), t'.c⟩, hg3.trans ?_, ?_, ?_⟩, ?_⟩
        · rw [setCell_eq_setRow wr g1 1 _ _ _ _ Hw]; exact setRow_heap Hw
        · intro v; rw [HE.out, T3.set_set]
        · exact hs3.not_own (by simp; exact (Array.getElem?_eq_some_iff.1 Hw).1) (fun h => hnw ((IterStep.own ho (hWf _ _ hJw) (IterStep.wrote (B := 0) hwr hnw (Nat.zero_le _)) g1).1 h))
        · rw [uptoN_succ, List.flatMap_append, ← List.append_assoc]
          rw [HE.out] at hJ3
          simpa using hJ3
      case measure => simp [intOf]; omega
    · have hdl : decide (x.mn + (j : Int) ≤ x.mx) = false := decide_eq_false hjl
      gi_wp2
      go_ret
      obtain rfl : j = (x.mx - x.mn + 1).toNat := by omega
      exact ⟨rfl, hJw, hSw⟩


set_option maxRecDepth 100000 in
set_option maxHeartbeats 4000000 in
theorem next_cons2 (F : Fence) (h105 : F.fn 105) (hro : F.round = none) (hd : F.depth = none) (own : World → Nat → Prop) (J : List T3 → World → Prop) (B N : Nat) (ho : OwnOk own) (hWf : ∀ s W, J s W → WfOwn own W) (hJs : ∀ s W W', J s W → IterStep own B W W' → J s W') (e : Ear) (c1 : Nat) (A2 : Option Addr) (n2 c2 be bl by_ bn l b o : Nat)
    (hlt : 2 < e.tones.length) (x : Rg) (hx : e.tones[2] = x) (hb : 1 ≤ x.mn ∧ x.mn ≤ 100000 ∧ 1 ≤ x.mx ∧ x.mx ≤ 100000) (rest : List Rg)
    (ih : ∀ (m : Nat) (t : T3) (pre : List T3) (W : World), Fx own e c1 A2 n2 c2 be bl by_ bn l b o W → J pre W → pre.length + (truthsFrom (fun _ => true) rest (2 + 1) t).length ≤ N → B ≤ W.heap.size →
      CallsIn F m Try.prog 105 #[T3.v t, .int .i64 3, .pointer (some ⟨be, 0, none⟩), .pointer (some ⟨bl, 0, none⟩), .pointer (some ⟨by_, 0, none⟩), .pointer (some ⟨bn, 0, none⟩)] W fun ed W' => ed = .returned (.bool true) ∧ J (pre ++ truthsFrom (fun _ => true) rest (2 + 1) t) W' ∧ BodyStep own W W')
    (m : Nat) (t : T3) (pre : List T3) (W : World) (hF : Fx own e c1 A2 n2 c2 be bl by_ bn l b o W) (hJ : J pre W) (hN : pre.length + (truthsFrom (fun _ => true) (x :: rest) 2 t).length ≤ N) (hB : B ≤ W.heap.size) :
    CallsIn F m Try.prog 105 #[T3.v t, .int .i64 2, .pointer (some ⟨be, 0, none⟩), .pointer (some ⟨bl, 0, none⟩), .pointer (some ⟨by_, 0, none⟩), .pointer (some ⟨bn, 0, none⟩)] W fun ed W' => ed = .returned (.bool true) ∧ J (pre ++ truthsFrom (fun _ => true) (x :: rest) 2 t) W' ∧ BodyStep own W W' := by
  have hdd : ∀ k : Nat, (F.depth.isSome = true → 1 ≤ k) := fun k h => by rw [hd] at h; cases h
  obtain ⟨l1, l2, l3, l4, l5⟩ := hF.lts
  refine callsIn_of_wp Try.func105 rfl h105 ?_ hro
  simp only [Try.ntmps105, List.size_toArray, List.length_cons, List.length_nil, Nat.reduceAdd, Nat.reduceSub, Array.replicate_succ, Array.replicate_zero, List.push_toArray, List.append_toArray, List.nil_append, List.cons_append]
  have hne : ((2 : Int) == (e.tones.length : Int)) = false := by simp; omega
  have hF0 := hF.ear
  have hr0 := (hF.row 2 hlt).1
  have hr1 := (hF.row 2 hlt).2
  rw [hx] at hr0 hr1
  have a0 : (0 : Int) ≤ (2 : Int) := by omega
  have a1 : (2 : Int) < (e.tones.length : Int) := by omega
  gi_wp2
  generalize hV : W.alloc _ = V
  generalize hg_ : W.heap.size = g1
  have hnV : ¬ own V g1 := by rw [← hV, ← hg_]; exact not_own_new ho W (hWf _ _ hJ) _
  have hJV : J pre V := by rw [← hV]; exact hJs _ _ _ hJ (IterStep.alloc _ _ _ _)
  have hSV : BodyStep own W V := by rw [← hV]; exact BodyStep.alloc_new ho (hWf _ _ hJ) (BodyStep.refl own W) _
  obtain ⟨hB0_, Hg1, kg1, fg1, lg1, bg1⟩ := gen1 W _ _ hV hg_
  have hgW : W.heap.size ≤ g1 := bg1
  have hcnt := Lib.hid (show pre.length + ((uptoN x (x.mx - x.mn + 1).toNat).flatMap fun n => truthsFrom (fun _ => true) rest (2 + 1) (t.set 2 n)).length ≤ N from hN)
  have HFx := Lib.hid hF
  clear hV hg_ hB0_ kg1 fg1 hF hF0 hr0 hr1 bg1
  gi_loopw [11] (fun i wr => ∃ j : Nat, j ≤ (x.mx - x.mn + 1).toNat ∧ i = .int .i64 (x.mn + (j : Int)) ∧ BodyStep own W wr ∧ (∃ t' : T3, wr.heap[g1]? = some (.cells #[.int .i64 t'.a, .int .i64 t'.b, .int .i64 t'.c] 93 (0, 0)) ∧ (∀ v, t'.set 2 v = t.set 2 v) ∧ ¬ own wr g1) ∧
      J (pre ++ (uptoN x j).flatMap fun n => truthsFrom (fun _ => true) rest (2 + 1) (t.set 2 n)) wr)
    (fun i _ => (x.mx + 1 - intOf i).toNat)
  case atStart => exact ⟨0, Nat.zero_le _, by simp, hSV, ⟨t, Hg1, fun _ => rfl, hnV⟩, by simpa [uptoN] using hJV⟩
  case round =>
    obtain ⟨j, hj, rfl, hSw, ⟨t', Hw, ht', hnw⟩, hJw⟩ := hrel
    have hFw := HFx.out.step hSw
    have hF0 := hFw.ear
    have hFn := hFw.nb
    have hr0 := (hFw.row 2 hlt).1
    have hr1 := (hFw.row 2 hlt).2
    rw [hx] at hr0 hr1
    have kg := fun k => cell_of_row wr g1 k _ _ _ Hw
    have fg := fun k => frozen_row Hw k
    have HFw := Lib.hid hFw
    clear hFw
    by_cases hjl : x.mn + (j : Int) ≤ x.mx
    · have hdl : decide (x.mn + (j : Int) ≤ x.mx) = true := decide_eq_true hjl
      have e2 : (⟨t'.a, t'.b, x.mn + (j : Int)⟩ : T3) = t.set 2 (x.mn + (j : Int)) := by rw [← ht']; rfl
      have HE := Lib.hid e2
      clear e2
      gi_wp2
      have hwr : Wrote wr (wr.setCell ⟨g1, 2, none⟩ (.int .i64 (x.mn + (j : Int)))) g1 := wrote_setCell _ _ _ _
      have hs2 : BodyStep own W (wr.setCell ⟨g1, 2, none⟩ (.int .i64 (x.mn + (j : Int)))) := BodyStep.wrote ho (hWf _ _ hJw) hSw hwr hgW hnw
      refine (ih (m - 1) ⟨t'.a, t'.b, x.mn + (j : Int)⟩ (pre ++ (uptoN x j).flatMap fun n => truthsFrom (fun _ => true) rest (2 + 1) (t.set 2 n)) _ (HFx.out.step hs2) (hJs _ _ _ hJw (IterStep.wrote hwr hnw (Nat.le_trans hB hgW))) (by rw [HE.out]; exact room_next (f := fun n => truthsFrom (fun _ => true) rest (2 + 1) (t.set 2 n)) (by omega) hcnt.out) (by have := hs2.size; omega)).mono ?_
      rintro ed W3 ⟨rfl, hJ3, hs3⟩
      gi_wp2
      go_roundw
      case rel =>
        have hg3 : W3.heap[g1]? = (wr.setCell ⟨g1, 2, none⟩ (.int .i64 (x.mn + (j : Int)))).heap[g1]? := hs3.keep g1 (by simp; exact (Array.getElem?_eq_some_iff.1 Hw).1) (fun h => hnw ((IterStep.own ho (hWf _ _ hJw) (IterStep.wrote (B := 0) hwr hnw (Nat.zero_le _)) g1).1 h))
        refine ⟨j + 1, by omega, by go_num, hs2.trans hs3, ⟨⟨t'.a, t'.b, x.mn + (j : Int)⟩, hg3.trans ?_, ?_, ?_⟩, ?_⟩
        · rw [setCell_eq_setRow wr g1 2 _ _ _ _ Hw]; exact setRow_heap Hw
        · intro v; rw [HE.out, T3.set_set]
        · exact hs3.not_own (by simp; exact (Array.getElem?_eq_some_iff.1 Hw).1) (fun h => hnw ((IterStep.own ho (hWf _ _ hJw) (IterStep.wrote (B := 0) hwr hnw (Nat.zero_le _)) g1).1 h))
        · rw [uptoN_succ, List.flatMap_append, ← List.append_assoc]
          rw [HE.out] at hJ3
          simpa using hJ3
      case measure => simp [intOf]; omega
    · have hdl : decide (x.mn + (j : Int) ≤ x.mx) = false := decide_eq_false hjl
      gi_wp2
      go_ret
      obtain rfl : j = (x.mx - x.mn + 1).toNat := by omega
      exact ⟨rfl, hJw, hSw⟩


theorem next_in (F : Fence) (h105 : F.fn 105) (hro : F.round = none) (hd : F.depth = none) (own : World → Nat → Prop) (J : List T3 → World → Prop) (B N : Nat) (ho : OwnOk own) (hWf : ∀ s W, J s W → WfOwn own W) (hJs : ∀ s W W', J s W → IterStep own B W W' → J s W') (e : Ear) (c1 : Nat) (A2 : Option Addr) (n2 c2 be bl by_ bn l b o : Nat)
    (hlen : e.tones.length ≤ 3) (hbd : ∀ x ∈ e.tones, 1 ≤ x.mn ∧ x.mn ≤ 100000 ∧ 1 ≤ x.mx ∧ x.mx ≤ 100000)
    (hY : ∀ m pre x W1, J pre W1 → pre.length < N → YieldAt F m Try.prog l #[T3.v x] W1 fun ed W' => ed = .returned (.bool true) ∧ J (pre ++ [x]) W' ∧ BodyStep own W1 W')
    (rest : List Rg) : ∀ (at_ : Nat), at_ + rest.length = e.tones.length → rest = e.tones.drop at_ → ∀ (m : Nat) (t : T3) (pre : List T3) (W : World), Fx own e c1 A2 n2 c2 be bl by_ bn l b o W → J pre W → pre.length + (truthsFrom (fun _ => true) rest at_ t).length ≤ N → B ≤ W.heap.size →
    CallsIn F m Try.prog 105 #[T3.v t, .int .i64 at_, .pointer (some ⟨be, 0, none⟩), .pointer (some ⟨bl, 0, none⟩), .pointer (some ⟨by_, 0, none⟩), .pointer (some ⟨bn, 0, none⟩)] W fun ed W' => ed = .returned (.bool true) ∧ J (pre ++ truthsFrom (fun _ => true) rest at_ t) W' ∧ BodyStep own W W' := by
  induction rest with
  | nil =>
    intro at_ hat hr m t pre W hF hJ hN hB
    obtain rfl : at_ = e.tones.length := by simpa using hat
    exact next_nil F h105 hro hd own J B N ho hWf hJs e c1 A2 n2 c2 be bl by_ bn l b o hY m t pre W hF hJ (by simp [truthsFrom] at hN; omega) hB
  | cons x rest ih =>
    intro at_ hat hr m t pre W hF hJ hN hB
    have hlt : at_ < e.tones.length := by simp at hat; omega
    have hx : e.tones[at_] = x := by rw [List.drop_eq_getElem_cons hlt] at hr; exact (List.cons.inj hr).1.symm
    have hrest : rest = e.tones.drop (at_ + 1) := by rw [List.drop_eq_getElem_cons hlt] at hr; exact (List.cons.inj hr).2
    have hb := hbd x (by rw [← hx]; exact List.getElem_mem hlt)
    have ih' := ih (at_ + 1) (by simp at hat; omega) hrest
    obtain rfl | rfl | rfl : at_ = 0 ∨ at_ = 1 ∨ at_ = 2 := by omega
    · exact next_cons0 F h105 hro hd own J B N ho hWf hJs e c1 A2 n2 c2 be bl by_ bn l b o hlt x hx hb rest ih' m t pre W hF hJ hN hB
    · exact next_cons1 F h105 hro hd own J B N ho hWf hJs e c1 A2 n2 c2 be bl by_ bn l b o hlt x hx hb rest ih' m t pre W hF hJ hN hB
    · exact next_cons2 F h105 hro hd own J B N ho hWf hJs e c1 A2 n2 c2 be bl by_ bn l b o hlt x hx hb rest ih' m t pre W hF hJ hN hB

end Go.Proofs.Ytnclljamcfoolaa
