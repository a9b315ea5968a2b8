/- Walks of package meter: the iterator over all truths of an ear of one tone with counts; its loop may stop. Walks of package meter: meter.truths$1 of an ear of one tone with counts; its loop may stop. The law of a loop over an iterator whose loop may return out of a round. Walk of meter.truths with counts: the list of what was read, and the iterator. Walks of package meter: all truths of an ear of one tone with counts, and whether there is one. Walk of meter.may: whether an ear of one tone with counts has a truth. -/
import Derived.Test.YtnclljamcfoolaaHd4
import Derived.Test.YtnclljamcfoolaaHd2
import Derived.Sort.CutIn
import Derived.Deep.AppendLies
import Derived.Test.YtnclljamcfoolaaHd3
namespace Go.Proofs.Ytnclljamcfoolaa
open Go.RowKit Go.Shelf
attribute [local go_sem] Oper.semAt_some
set_option linter.unusedVariables false
set_option linter.unusedSimpArgs false

theorem method_is (v : Value) (w : World) : (method 284 149 v "musette/meter.is").run Try.prog w = .ok (108, v) w := by kernel_rfl
def ifc (slack : Int) (r : Ct) : List Value := [.iface 149 (r.cv slack)]
structure FxR (own : World → Nat → Prop) (slack : Int) (x : Rg) (ls : List Ct) (c1 : Nat) (A2 : Option Addr) (n2 c2 : Nat) (Ai : Option Addr) (ci : Nat) (be bl by_ bn l b o : Nat) (W : World) : Prop where
  ear : ∀ j, W.cell? ⟨be, j, none⟩ = #[Value.int IntKind.i64 slack, Value.slice (some ⟨b, o, none⟩) 1 c1, Value.slice A2 n2 c2][j]?
  lb : W.cell? ⟨bl, 0, none⟩ = some (.slice Ai ls.length ci)
  yb : W.cell? ⟨by_, 0, none⟩ = some (.func (.yield l) #[] #[])
  nb : W.cell? ⟨bn, 0, none⟩ = some (.func (.func 105) #[] #[.pointer (some ⟨be, 0, none⟩), .pointer (some ⟨bl, 0, none⟩), .pointer (some ⟨by_, 0, none⟩), .pointer (some ⟨bn, 0, none⟩)])
  row : W.cell? ⟨b, o, none⟩ = some (.int .i64 x.mn) ∧ W.cell? ⟨b, o + 1, none⟩ = some (.int .i64 x.mx)
  rds : Row (ifc slack) 1 W Ai ls
  lts : be < W.heap.size ∧ bl < W.heap.size ∧ by_ < W.heap.size ∧ bn < W.heap.size ∧ b < W.heap.size ∧ ∀ a, Ai = some a → a.block < W.heap.size
  nos : ¬ own W be ∧ ¬ own W bl ∧ ¬ own W by_ ∧ ¬ own W bn ∧ ¬ own W b ∧ ∀ a, Ai = some a → ¬ own W a.block
theorem FxR.step {own : World → Nat → Prop} {slack : Int} {x : Rg} {ls : List Ct} {c1 : Nat} {A2 : Option Addr} {n2 c2 : Nat} {Ai : Option Addr} {ci be bl by_ bn l b o : Nat} {W W' : World} (h : FxR own slack x ls c1 A2 n2 c2 Ai ci be bl by_ bn l b o W) (hs : BodyStep own W W') : FxR own slack x ls c1 A2 n2 c2 Ai ci be bl by_ bn l b o W' := by
  obtain ⟨l1, l2, l3, l4, l5, l6⟩ := h.lts
  obtain ⟨o1, o2, o3, o4, o5, o6⟩ := h.nos
  have hz := hs.size
  refine ⟨fun j => (hs.cell l1 o1 j).trans (h.ear j), (hs.cell l2 o2 0).trans h.lb, (hs.cell l3 o3 0).trans h.yb, (hs.cell l4 o4 0).trans h.nb, ⟨(hs.cell l5 o5 _).trans h.row.1, (hs.cell l5 o5 _).trans h.row.2⟩, ?_,
    ⟨by omega, by omega, by omega, by omega, by omega, fun a ha => Nat.lt_of_lt_of_le (l6 a ha) hz⟩, ⟨hs.not_own l1 o1, hs.not_own l2 o2, hs.not_own l3 o3, hs.not_own l4 o4, hs.not_own l5 o5, fun a ha => hs.not_own (l6 a ha) (o6 a ha)⟩⟩
  rcases h.rds with hr | ⟨bi, oi, rfl, hr⟩
  · exact .inl hr
  · exact .inr ⟨bi, oi, rfl, fun i y hy j v hv => (hs.cell (l6 _ rfl) (o6 _ rfl) _).trans (hr i y hy j v hv)⟩
theorem Row.ifc {slack : Int} {W : World} {A : Option Addr} {ls : List Ct} (h : Row (ifc slack) 1 W A ls) (k : Nat) (hk : k < ls.length) : ∃ b o, A = some ⟨b, o, none⟩ ∧ b < W.heap.size ∧ W.cell? ⟨b, o + k, none⟩ = some (.iface 149 (ls[k].cv slack)) := by
  obtain ⟨b, o, hA, h⟩ := h.cell k hk
  have h0 := h 0 _ rfl
  rw [Nat.mul_one, Nat.add_zero] at h0
  exact ⟨b, o, hA, World.block_lt_of_cell? W _ h0, h0⟩

set_option maxRecDepth 100000 in
set_option maxHeartbeats 2000000 in
theorem nextR_leaf (F : Fence) (hF0 : F = Fence.wide) (own : World → Nat → Prop) (J Jx : List T3 → World → Prop) (B N : Nat) (ho : OwnOk own) (hWf : ∀ s W, J s W → WfOwn own W) (hJs : ∀ s W W', J s W → IterStep own B W W' → J s W') (slack : Int) (hsl : 0 ≤ slack ∧ slack ≤ 3) (x : Rg) (ls : List Ct) (hls : ∀ r ∈ ls, r.Ok) (hl6 : ls.length ≤ 7) (c1 : Nat) (A2 : Option Addr) (n2 c2 : Nat) (Ai : Option Addr) (ci be bl by_ bn l b o : Nat)
    (hY : ∀ m pre x W1, J pre W1 → pre.length < N → YieldAt F m Try.prog l #[T3.v x] W1 fun ed W' => (ed = .returned (.bool true) ∧ J (pre ++ [x]) W' ∧ BodyStep own W1 W') ∨ (ed = .returned (.bool false) ∧ Jx (pre ++ [x]) W'))
    (m : Nat) (t : T3) (ht : 0 ≤ t.a ∧ t.a ≤ 100000) (pre : List T3) (W : World) (hF : FxR own slack x ls c1 A2 n2 c2 Ai ci be bl by_ bn l b o W) (hJ : J pre W) (hN : fitsC slack t.a ls = true → pre.length < N) (hB : B ≤ W.heap.size) :
    CallsIn F m Try.prog 105 #[T3.v t, .int .i64 1, .pointer (some ⟨be, 0, none⟩), .pointer (some ⟨bl, 0, none⟩), .pointer (some ⟨by_, 0, none⟩), .pointer (some ⟨bn, 0, none⟩)] W fun ed W' =>
      (ed = .returned (.bool true) ∧ J (if fitsC slack t.a ls then pre ++ [t] else pre) W' ∧ BodyStep own W W') ∨ (ed = .returned (.bool false) ∧ fitsC slack t.a ls = true ∧ Jx (pre ++ [t]) W') := by
  subst hF0
  generalize hres : (if fitsC slack t.a ls then pre ++ [t] else pre) = res
  have HRS := Lib.hid hres
  clear hres
  obtain ⟨l1, l2, l3, l4, l5, l6⟩ := hF.lts
  have hF0 := hF.ear
  have hF1 := hF.lb
  have hF2 := hF.yb
  refine callsIn_of_wp Try.func105 rfl trivial ?_ rfl
  simp only [Try.ntmps105, List.size_toArray, List.length_cons, List.length_nil, Nat.reduceAdd, Nat.reduceSub, Array.replicate_succ, Array.replicate_zero, List.push_toArray, List.append_toArray, List.nil_append, List.cons_append]
  gi_wp2
  generalize hV : W.alloc _ = V
  generalize hg_ : W.heap.size = g1
  obtain ⟨hB0_, Hg1, kg1, fg1, lg1, bg1⟩ := gen1 W _ _ hV hg_
  have hJV : J pre V := by rw [← hV]; exact hJs _ _ _ hJ (IterStep.alloc _ _ _ _)
  have hS : BodyStep own W V := BodyStep.of_same ho (hWf _ _ hJ) hB0_.size (fun k hk => hB0_.block k hk)
  have HF := Lib.hid hF
  have HS := Lib.hid hS
  have HJV := Lib.hid hJV
  have HG1 := Lib.hid Hg1
  have hnV : ¬ own V g1 := by rw [← hV, ← hg_]; exact not_own_new ho W (hWf _ _ hJ) _
  clear hV hg_ hB0_ hS hF hJV Hg1 hF0 hF1 hF2 hJ
  gi_loopw [19] (fun i wr => ∃ k : Nat, k ≤ ls.length ∧ i = .int .i64 k ∧ Hid (J pre wr ∧ BodyStep own W wr ∧ wr.heap[g1]? = some (.cells #[.int .i64 t.a, .int .i64 t.b, .int .i64 t.c] 93 (0, 0)) ∧ fitsC slack t.a (ls.take k) = true)) (fun i _ => ls.length - (intOf i).toNat)
  case atStart => exact ⟨0, Nat.zero_le _, rfl, Lib.hid ⟨HJV.out, HS.out, HG1.out, rfl⟩⟩
  case round =>
    obtain ⟨k, hk, rfl, HH⟩ := hrel
    have hFr := HF.out.step HH.out.2.1
    have kt := fun i => cell_of_row wr g1 i _ _ _ HH.out.2.2.1
    by_cases hlt : k < ls.length
    · have hlti : ((k : Int) < (ls.length : Int)) := by omega
      obtain ⟨bi, oi, hAi, hbi, hci⟩ := hFr.rds.ifc k hlt
      subst hAi
      have HFr := Lib.hid hFr
      clear hFr
      have hmeth := fun v w => method_is v w
      gi_wp2_with fail
      obtain ⟨tv, htv⟩ : ∃ tv, trueAt slack t.a ls[k] = tv := ⟨_, rfl⟩
      have hIC := is_calls ls[k] slack t (hls _ (List.getElem_mem hlt)) ht hsl wr
      rw [htv] at hIC
      refine ⟨trivial, (fun h => by cases h), (callsIn_wide.2 hIC).mono ?_⟩
      rintro e_ w1 ⟨rfl, hb_⟩
      have hJ1 : J pre w1 := hJs _ _ _ HH.out.1 (IterStep.of_new hb_)
      have hS1 : BodyStep own W w1 := HH.out.2.1.trans (BodyStep.of_same ho (hWf _ _ HH.out.1) hb_.size (fun k hk => hb_.block k hk))
      have HJ1 := Lib.hid hJ1
      have HS1 := Lib.hid hS1
      have HG1 := Lib.hid ((hb_.block _ (Array.getElem?_eq_some_iff.1 HH.out.2.2.1).1).trans HH.out.2.2.1)
      have HTV := Lib.hid htv
      clear hJ1 hS1 hb_ htv hIC kt hci
      cases tv with
      | true =>
        gi_wp2
        refine ⟨⟨k + 1, by omega, by simp, Lib.hid ⟨HJ1.out, HS1.out, HG1.out, ?_⟩⟩, ?_⟩
        · have h0 := HH.out.2.2.2
          unfold fitsC at h0 ⊢
          rw [List.take_succ_eq_append_getElem hlt, List.all_append, h0]
          simp [HTV.out]
        · simp [intOf]; omega
      | false =>
        have hff : fitsC slack t.a ls = false := by
          unfold fitsC
          rw [List.all_eq_false]
          exact ⟨ls[k], List.getElem_mem hlt, by rw [HTV.out]; simp⟩
        have HFF := Lib.hid hff
        clear hff
        gi_wp2
        go_ret
        exact .inl ⟨rfl, by rw [← HRS.out, if_neg (by rw [HFF.out]; simp)]; exact HJ1.out, HS1.out⟩
    · have hlti : ¬ ((k : Int) < (ls.length : Int)) := by omega
      obtain rfl : k = ls.length := by omega
      have hfl := HH.out.2.2.2
      rw [List.take_length] at hfl
      have hyb := hFr.yb
      obtain ⟨fn, tmps, assign, body, hy, hR⟩ := hY (m - 1) pre t _ HH.out.1 (hN hfl)
      have HFL := Lib.hid hfl
      clear hfl hFr
      gi_wp2
      refine ⟨(fun h => by cases h), hR.mono ?_⟩
      rintro e_ W3 (⟨rfl, hJ3, hk3⟩ | ⟨rfl, hJx3⟩)
      · gi_wp2
        go_ret
        exact .inl ⟨rfl, by rw [← HRS.out, if_pos HFL.out]; exact hJ3, HH.out.2.1.trans hk3⟩
      · gi_wp2
        go_ret
        exact .inr ⟨rfl, HFL.out, hJx3⟩

/-- the truths of an ear of one tone with counts, the first j numbers of its tone -/
def keptN (slack : Int) (x : Rg) (ls : List Ct) (j : Nat) : List T3 := ((uptoN x j).filter fun n => fitsC slack n ls).map fun n => ⟨n, 0, 0⟩
def keptC (slack : Int) (x : Rg) (ls : List Ct) : List T3 := keptN slack x ls (x.mx - x.mn + 1).toNat
theorem keptN_succ (slack : Int) (x : Rg) (ls : List Ct) (j : Nat) : keptN slack x ls (j + 1) = if fitsC slack (x.mn + (j : Int)) ls then keptN slack x ls j ++ [⟨x.mn + (j : Int), 0, 0⟩] else keptN slack x ls j := by
  unfold keptN
  rw [uptoN_succ, List.filter_append]
  by_cases h : fitsC slack (x.mn + (j : Int)) ls = true
  · simp [h]
  · simp [h]
theorem keptN_le (slack : Int) (x : Rg) (ls : List Ct) {j k : Nat} (h : j ≤ k) : (keptN slack x ls j).length ≤ (keptN slack x ls k).length := by
  obtain ⟨r, hr⟩ := uptoN_le x h
  unfold keptN
  rw [hr, List.filter_append]
  simp

set_option maxRecDepth 100000 in
set_option maxHeartbeats 4000000 in
theorem nextR_top (own : World → Nat → Prop) (J Jx : List T3 → World → Prop) (B : Nat) (ho : OwnOk own) (hWf : ∀ s W, J s W → WfOwn own W) (hJs : ∀ s W W', J s W → IterStep own B W W' → J s W') (slack : Int) (hsl : 0 ≤ slack ∧ slack ≤ 3) (x : Rg) (hb : 1 ≤ x.mn ∧ x.mn ≤ 100000 ∧ 1 ≤ x.mx ∧ x.mx ≤ 100000) (ls : List Ct) (hls : ∀ r ∈ ls, r.Ok) (hl6 : ls.length ≤ 7) (c1 : Nat) (A2 : Option Addr) (n2 c2 : Nat) (Ai : Option Addr) (ci be bl by_ bn l b o : Nat)
    (hY : ∀ m pre x1 W1, J pre W1 → pre.length < (keptC slack x ls).length → YieldAt Fence.wide m Try.prog l #[T3.v x1] W1 fun ed W' => (ed = .returned (.bool true) ∧ J (pre ++ [x1]) W' ∧ BodyStep own W1 W') ∨ (ed = .returned (.bool false) ∧ Jx (pre ++ [x1]) W'))
    (m : Nat) (W : World) (hF : FxR own slack x ls c1 A2 n2 c2 Ai ci be bl by_ bn l b o W) (hJ : J [] W) (hB : B ≤ W.heap.size) :
    CallsIn Fence.wide m Try.prog 105 #[T3.v ⟨0, 0, 0⟩, .int .i64 0, .pointer (some ⟨be, 0, none⟩), .pointer (some ⟨bl, 0, none⟩), .pointer (some ⟨by_, 0, none⟩), .pointer (some ⟨bn, 0, none⟩)] W fun ed W' =>
      (ed = .returned (.bool true) ∧ J (keptC slack x ls) W' ∧ BodyStep own W W') ∨ (ed = .returned (.bool false) ∧ ∃ pre, Jx pre W') := by
  have hdd : ∀ k : Nat, (Fence.wide.depth.isSome = true → 1 ≤ k) := fun k h => by cases h
  obtain ⟨l1, l2, l3, l4, l5, l6⟩ := hF.lts
  have LF := Lib.hid (fun m t ht pre W hF hJ hN hB => nextR_leaf Fence.wide rfl own J Jx B (keptC slack x ls).length ho hWf hJs slack hsl x ls hls hl6 c1 A2 n2 c2 Ai ci be bl by_ bn l b o hY m t ht pre W hF hJ hN hB)
  refine callsIn_of_wp Try.func105 rfl trivial ?_ rfl
  simp only [Try.ntmps105, List.size_toArray, List.length_cons, List.length_nil, Nat.reduceAdd, Nat.reduceSub, Array.replicate_succ, Array.replicate_zero, List.push_toArray, List.append_toArray, List.nil_append, List.cons_append]
  have hF0 := hF.ear
  have hr0 := hF.row.1
  have hr1 := hF.row.2
  gi_wp2
  generalize hV : W.alloc _ = V
  generalize hg_ : W.heap.size = g1
  have hnV : ¬ own V g1 := by rw [← hV, ← hg_]; exact not_own_new ho W (hWf _ _ hJ) _
  have hJV : J [] V := by rw [← hV]; exact hJs _ _ _ hJ (IterStep.alloc _ _ _ _)
  have hSV : BodyStep own W V := by rw [← hV]; exact BodyStep.alloc_new ho (hWf _ _ hJ) (BodyStep.refl own W) _
  obtain ⟨hB0_, Hg1, kg1, fg1, lg1, bg1⟩ := gen1 W _ _ hV hg_
  have hgW : W.heap.size ≤ g1 := bg1
  have HFx := Lib.hid hF
  clear hV hg_ hB0_ kg1 fg1 hF hF0 hr0 hr1 bg1
  gi_loopw [11] (fun i wr => ∃ j : Nat, j ≤ (x.mx - x.mn + 1).toNat ∧ i = .int .i64 (x.mn + (j : Int)) ∧ BodyStep own W wr ∧ (∃ n0 : Int, wr.heap[g1]? = some (.cells #[.int .i64 n0, .int .i64 0, .int .i64 0] 93 (0, 0)) ∧ ¬ own wr g1) ∧ Hid (J (keptN slack x ls j) wr))
    (fun i _ => (x.mx + 1 - intOf i).toNat)
  case atStart => exact ⟨0, Nat.zero_le _, by simp, hSV, ⟨0, Hg1, hnV⟩, Lib.hid hJV⟩
  case round =>
    obtain ⟨j, hj, rfl, hSw, ⟨n0, Hw, hnw⟩, HJw⟩ := hrel
    have hJw := HJw.out
    have hFw := HFx.out.step hSw
    have hF0 := hFw.ear
    have hFn := hFw.nb
    have hr0 := hFw.row.1
    have hr1 := hFw.row.2
    have kg := fun k => cell_of_row wr g1 k _ _ _ Hw
    have fg := fun k => frozen_row Hw k
    have HFw := Lib.hid hFw
    clear hFw hJw
    by_cases hjl : x.mn + (j : Int) ≤ x.mx
    · have hdl : decide (x.mn + (j : Int) ≤ x.mx) = true := decide_eq_true hjl
      gi_wp2
      have hwr : Wrote wr (wr.setCell ⟨g1, 0, none⟩ (.int .i64 (x.mn + (j : Int)))) g1 := wrote_setCell _ _ _ _
      have hs2 : BodyStep own W (wr.setCell ⟨g1, 0, none⟩ (.int .i64 (x.mn + (j : Int)))) := BodyStep.wrote ho (hWf _ _ HJw.out) hSw hwr hgW hnw
      have hks := keptN_succ slack x ls j
      refine ⟨trivial, (fun h => by cases h), (LF.out (m - 1) ⟨x.mn + (j : Int), 0, 0⟩ (by simp only []; omega) (keptN slack x ls j) _ (HFx.out.step hs2) (hJs _ _ _ HJw.out (IterStep.wrote hwr hnw (Nat.le_trans hB hgW))) (fun hf => by
        have h1 := keptN_le slack x ls (j := j + 1) (k := (x.mx - x.mn + 1).toNat) (by omega)
        rw [hks, if_pos hf] at h1
        simp only [List.length_append, List.length_cons, List.length_nil] at h1
        unfold keptC
        omega) (by have := hs2.size; omega)).mono ?_⟩
      simp only []
      rw [← hks]
      have HKS := Lib.hid hks
      clear hks
      rintro ed W3 (⟨rfl, hJ3, hs3⟩ | ⟨rfl, -, hJx3⟩)
      · have HJ3 := Lib.hid hJ3
        clear hJ3
        gi_wp2
        go_roundw
        case rel =>
          have hg3 : W3.heap[g1]? = (wr.setCell ⟨g1, 0, none⟩ (.int .i64 (x.mn + (j : Int)))).heap[g1]? := hs3.keep g1 (by simp; exact (Array.getElem?_eq_some_iff.1 Hw).1) (fun h => hnw ((IterStep.own ho (hWf _ _ HJw.out) (IterStep.wrote (B := 0) hwr hnw (Nat.zero_le _)) g1).1 h))
          refine ⟨j + 1, by omega, by go_num, hs2.trans hs3, ⟨x.mn + (j : Int), hg3.trans ?_, ?_⟩, HJ3⟩
          · rw [setCell_eq_setRow wr g1 0 _ _ _ _ Hw]; exact setRow_heap Hw
          · exact hs3.not_own (by simp; exact (Array.getElem?_eq_some_iff.1 Hw).1) (fun h => hnw ((IterStep.own ho (hWf _ _ HJw.out) (IterStep.wrote (B := 0) hwr hnw (Nat.zero_le _)) g1).1 h))
        case measure => simp [intOf]; omega
      · gi_wp2
        go_ret
        exact .inr ⟨rfl, _, hJx3⟩
    · have hdl : decide (x.mn + (j : Int) ≤ x.mx) = false := decide_eq_false hjl
      gi_wp2
      go_ret
      obtain rfl : j = (x.mx - x.mn + 1).toNat := by omega
      exact .inl ⟨rfl, HJw.out, hSw⟩

end Go.Proofs.Ytnclljamcfoolaa
namespace Go.Proofs.Ytnclljamcfoolaa
open Go.RowKit Go.Shelf
attribute [local go_sem] Oper.semAt_some
set_option linter.unusedVariables false
set_option linter.unusedSimpArgs false

/-- An iterator's contract where its loop may stop: as SeqO; a round that says 'no more' leaves Jx, and that is how the iterator ends. -/
def SeqOS {α : Type} (F : Fence) (n : Nat) (P : Program) (g : Nat) (lb : Array Value) (enc : α → Value) (S : List α → Prop) (N : Nat) (w : World) : Prop :=
  ∀ (l : Nat) (own : World → Nat → Prop) (J Jx : List α → World → Prop) (W : World), OwnOk own → Below w.heap.size w W → (∀ k, own W k → w.heap.size ≤ k) →
    (∀ s W1 W2, J s W1 → IterStep own W.heap.size W1 W2 → J s W2) →
    (∀ s W1, J s W1 → WfOwn own W1) →
    (∀ pre x W1, J pre W1 → pre.length < N → YieldAt F (n - 1) P l #[enc x] W1 fun e W' => (e = .returned (.bool true) ∧ J (pre ++ [x]) W' ∧ BodyStep own W1 W') ∨ (e = .returned (.bool false) ∧ Jx (pre ++ [x]) W')) →
    J [] W →
    CallsIn F n P g (#[.func (.yield l) #[] #[]] ++ lb) W fun e W' => (∃ v, e = .returned v) ∧ ((∃ xs, S xs ∧ J xs W') ∨ ∃ pre, Jx pre W')

theorem SeqOS.all {α : Type} {F : Fence} {n : Nat} {P : Program} {g : Nat} {lb : Array Value} {enc : α → Value} {S : List α → Prop} {N : Nat} {w : World} (h : SeqOS F n P g lb enc S N w) : SeqO F n P g lb enc S N w := by
  intro l own J W ho hB hown hJs hWf hY hJ0
  refine (h l own J (fun _ _ => False) W ho hB hown hJs hWf (fun pre x W1 hj hl => ?_) hJ0).mono ?_
  · obtain ⟨fn, tmps, assign, body, hy, hR⟩ := hY pre x W1 hj hl
    exact ⟨fn, tmps, assign, body, hy, hR.mono fun e W' he => .inl he⟩
  · rintro e W' ⟨hv, h | ⟨_, h⟩⟩
    · exact ⟨hv, h⟩
    · exact h.elim

structure FwR (slack : Int) (x : Rg) (ls : List Ct) (c1 : Nat) (A2 : Option Addr) (n2 c2 : Nat) (Ai : Option Addr) (ci : Nat) (be bl b o : Nat) (W : World) : Prop where
  ear : ∀ j, W.cell? ⟨be, j, none⟩ = #[Value.int IntKind.i64 slack, Value.slice (some ⟨b, o, none⟩) 1 c1, Value.slice A2 n2 c2][j]?
  lb : W.cell? ⟨bl, 0, none⟩ = some (.slice Ai ls.length ci)
  row : W.cell? ⟨b, o, none⟩ = some (.int .i64 x.mn) ∧ W.cell? ⟨b, o + 1, none⟩ = some (.int .i64 x.mx)
  rds : Row (ifc slack) 1 W Ai ls
  lts : be < W.heap.size ∧ bl < W.heap.size ∧ b < W.heap.size ∧ ∀ a, Ai = some a → a.block < W.heap.size
theorem FwR.below {slack : Int} {x : Rg} {ls : List Ct} {c1 : Nat} {A2 : Option Addr} {n2 c2 : Nat} {Ai : Option Addr} {ci be bl b o : Nat} {w W : World} (h : FwR slack x ls c1 A2 n2 c2 Ai ci be bl b o w) (hB : Below w.heap.size w W) : FwR slack x ls c1 A2 n2 c2 Ai ci be bl b o W := by
  obtain ⟨l1, l2, l3, l4⟩ := h.lts
  have hc := CB.of hB
  have hz := hB.size
  exact ⟨fun j => (hc.1 _ _ l1).trans (h.ear j), (hc.1 _ _ l2).trans h.lb, ⟨(hc.1 _ _ l3).trans h.row.1, (hc.1 _ _ l3).trans h.row.2⟩, h.rds.below hB, by omega, by omega, by omega, fun a ha => Nat.lt_of_lt_of_le (l4 a ha) hz⟩

set_option maxRecDepth 100000 in
set_option maxHeartbeats 2000000 in
theorem truthsR_seq (n : Nat) (slack : Int) (hsl : 0 ≤ slack ∧ slack ≤ 3) (x : Rg) (hb : 1 ≤ x.mn ∧ x.mn ≤ 100000 ∧ 1 ≤ x.mx ∧ x.mx ≤ 100000) (ls : List Ct) (hls : ∀ r ∈ ls, r.Ok) (hl6 : ls.length ≤ 7) (c1 : Nat) (A2 : Option Addr) (n2 c2 : Nat) (Ai : Option Addr) (ci be bl b o : Nat)
    (w : World) (hF : FwR slack x ls c1 A2 n2 c2 Ai ci be bl b o w) :
    SeqOS Fence.wide n Try.prog 104 #[.pointer (some ⟨be, 0, none⟩), .pointer (some ⟨bl, 0, none⟩)] T3.v (fun xs => xs = keptC slack x ls) (keptC slack x ls).length w := by
  intro l own J Jx W ho hB hown hJs hWf hY hJ0
  have hFW := hF.below hB
  have hY' : ∀ m pre x1 W1, J pre W1 → pre.length < (keptC slack x ls).length → YieldAt Fence.wide m Try.prog l #[T3.v x1] W1 fun ed W' => (ed = .returned (.bool true) ∧ J (pre ++ [x1]) W' ∧ BodyStep own W1 W') ∨ (ed = .returned (.bool false) ∧ Jx (pre ++ [x1]) W') :=
    fun m pre x1 W1 hj hl => YieldAt_anyDepth rfl m (hY pre x1 W1 hj hl)
  have nos : ∀ k, k < w.heap.size → ¬ own W k := fun k hk h => by have := hown k h; omega
  refine callsIn_of_wp Try.func104 rfl trivial ?_ rfl
  simp only [Try.ntmps104, List.size_toArray, List.length_cons, List.length_nil, Nat.reduceAdd, Nat.reduceSub, Array.replicate_succ, Array.replicate_zero, List.push_toArray, List.append_toArray, List.nil_append, List.cons_append]
  gi_wp2
  generalize hV : (W.alloc _).alloc _ = V
  generalize h2_ : W.heap.size + 1 = g2
  generalize h1_ : W.heap.size = g1
  obtain ⟨hB0_, Hg1, Hg2, kg1, kg2, fg1, fg2, lg1, lg2, bg1, bg2, ng12, ng21⟩ := gen2 W _ _ _ _ hV h2_ h1_
  have hit : IterStep own W.heap.size W V := by rw [← hV]; exact ⟨rfl, rfl, rfl, by simp; omega, fun k hk _ => (Below.heap_alloc _ _ k (by simp; omega)).trans (Below.heap_alloc _ _ k hk)⟩
  have hFV := hFW.below hB0_
  have n1 : ¬ own V g1 := fun h => by have := (IterStep.own ho (hWf _ _ hJ0) hit g1).1 h; have := hWf _ _ hJ0 _ this; omega
  have n2' : ¬ own V g2 := fun h => by have := (IterStep.own ho (hWf _ _ hJ0) hit g2).1 h; have := hWf _ _ hJ0 _ this; omega
  have n3 : ∀ k, k < w.heap.size → ¬ own V k := fun k hk h => nos k hk ((IterStep.own ho (hWf _ _ hJ0) hit k).1 h)
  have hFx : FxR own slack x ls c1 A2 n2 c2 Ai ci be bl g1 g2 l b o V := by
    obtain ⟨l1, l2, l3, l4⟩ := hFV.lts
    exact ⟨hFV.ear, hFV.lb, kg1 0, by have := kg2 0; subst h1_ h2_; exact this, hFV.row, hFV.rds, ⟨l1, l2, lg1, lg2, l3, l4⟩, ⟨n3 _ hF.lts.1, n3 _ hF.lts.2.1, n1, n2', n3 _ hF.lts.2.2.1, fun a ha => n3 _ (hF.lts.2.2.2 a ha)⟩⟩
  refine ⟨trivial, (fun h => by cases h), (nextR_top own J Jx W.heap.size ho hWf hJs slack hsl x hb ls hls hl6 c1 A2 n2 c2 Ai ci be bl g1 g2 l b o hY' (n - 1) V hFx (hJs _ _ _ hJ0 hit) hB0_.size).mono ?_⟩
  rintro ed W3 (⟨rfl, hJ3, hs3⟩ | ⟨rfl, pre, hJ3⟩)
  · have HJ3 := Lib.hid hJ3
    clear hJ3
    gi_wp2
    go_end0
    exact ⟨⟨_, rfl⟩, .inl ⟨_, rfl, HJ3.out⟩⟩
  · have HJ3 := Lib.hid hJ3
    clear hJ3
    gi_wp2
    go_end0
    exact ⟨⟨_, rfl⟩, .inr ⟨_, HJ3.out⟩⟩

end Go.Proofs.Ytnclljamcfoolaa
namespace Go.Proofs.Ytnclljamcfoolaa
open Go.RowKit Go.Shelf
set_option linter.unusedVariables false
set_option linter.unusedSimpArgs false
variable {F : Fence} {n : Nat} {P : Program} {w : World}

set_option maxHeartbeats 1000000 in
theorem rangeOS {α : Type} {g : Operand} {ps : Array Tmp} {assign body : Code} {Q : Exit → Act → World → Prop} {a : Act}
    (hro : F.round = none) (h1 : 1 ≤ n) {gf : Nat} {lb : Array Value} (hg : a.eval g = .func (.func gf) #[] lb) (hFg : F.fn gf) (eg : ∀ args w, (callFunc gf args).run P w = .ok (.enter gf args) w)
    {enc : α → Value} {S : List α → Prop} {N : Nat} {w0 : World} (hseq : SeqOS F (n - 1) P gf lb enc S N w0) (hb0 : Below w0.heap.size w0 w) (hps : ps.size = 1)
    (own0 : World → Nat → Prop) (ho : OwnOk own0) (hown0 : ∀ k, own0 w k → w0.heap.size ≤ k)
    (I : List α → World → Prop) (hWf : ∀ s W, w.heap.size ≤ W.heap.size → I s W → WfOwn own0 W) (hI : ∀ s W1 W2, w.heap.size ≤ W1.heap.size → I s W1 → IterStep own0 w.heap.size W1 W2 → I s W2) (hown : ∀ s W, w.heap.size + 2 ≤ W.heap.size → I s W → ∀ k, own0 W k → k ≠ w.heap.size ∧ k ≠ w.heap.size + 1) (h0 : I [] w) (Ix : List α → World → Prop) (hIx : ∀ s W o, w.heap.size + 2 ≤ W.heap.size → Ix s W → Ix s (W.putObj (w.heap.size + 1) o)) (Ax : α → Act → World → Prop)
    (hAx : ∀ x a' W1 W2, Ax x a' W1 → (∀ k, k ≠ w.heap.size + 1 → W2.heap[k]? = W1.heap[k]?) → w.heap.size + 2 ≤ W1.heap.size → Ax x a' W2)
    (hassign : ∀ (l : Nat) (pre : List α) (x : α) (W : World) (K : Act → World → Prop), w.heap.size + 2 ≤ W.heap.size → I pre W → (∀ a' W', Below W.heap.size W W' → Ax x a' W' → K a' W') →
      assign.wpIn (F.inRound l) (n - 1 - 1) P (Exit.then K (fun _ _ _ => False)) { tmps := (ps.zip #[enc x]).foldl (fun t (p, v) => t.setIfInBounds p v) a.tmps, defers := [] } W)
    (hbody : ∀ (l : Nat) (pre : List α) (x : α) (a' : Act) (W : World), w.heap.size + 2 ≤ W.heap.size → I pre W → Ax x a' W → pre.length < N →
      body.wpIn (F.inRound l) (n - 1 - 1) P (fun e _ W' => (e = .normal ∧ BodyStep own0 W W' ∧ I (pre ++ [x]) W') ∨ (e = .ret ∧ (∀ k, k = w.heap.size ∨ k = w.heap.size + 1 → W'.heap[k]? = W.heap[k]?) ∧ w.heap.size + 2 ≤ W'.heap.size ∧ Ix (pre ++ [x]) W')) a' W)
    (hdone : ∀ (xs : List α) (W : World), w.heap.size + 2 ≤ W.heap.size → S xs → I xs W → W.heap[w.heap.size]? = some (.deferred (some [])) → Q .normal { a with defers := { target := .collected w.heap.size, args := #[] } :: a.defers } W)
    (hstop : ∀ (pre : List α) (W : World), w.heap.size + 2 ≤ W.heap.size → Ix pre W → W.heap[w.heap.size]? = some (.deferred (some [])) → Code.ret.wpIn F n P Q { a with defers := { target := .collected w.heap.size, args := #[] } :: a.defers } W) :
    (Code.rangeFunc g ps assign body).wpIn F n P Q a w := by
  refine wpIn_rangeFunc ?_
  intro fn hfn
  rw [hro]
  obtain ⟨rec, hrec⟩ : ∃ rec : LoopState → Option Code → Loop, rec = fun st pe => { state := st, pending := pe, fn, tmps := a.tmps, params := ps, assign, body, defers := w.heap.size } := ⟨_, rfl⟩
  obtain ⟨W1, hW1⟩ : ∃ W1, (w.alloc (.deferred (some []))).alloc (.loop (rec .ready none)) = W1 := ⟨_, rfl⟩
  have hL1 : W1.heap[w.heap.size + 1]? = some (.loop (rec .ready none)) := by
    rw [← hW1]; have := World.alloc_heap_new (w.alloc (.deferred (some []))) (.loop (rec .ready none)); rwa [World.size_alloc] at this
  have hK1 : W1.heap[w.heap.size]? = some (.deferred (some [])) := by
    rw [← hW1]; exact (Below.heap_alloc _ _ _ (by simp)).trans (World.alloc_heap_new w _)
  have hz1 : W1.heap.size = w.heap.size + 2 := by rw [← hW1]; simp
  have hb01 : Below w.heap.size w W1 := by rw [← hW1]; exact ((Below.refl _ w).alloc (Nat.le_refl _) _).alloc (by simp) _
  have hI1 : I [] W1 := hI _ _ _ (Nat.le_refl _) h0 (IterStep.of_new hb01)
  have hb1 : Below w0.heap.size w0 W1 := hb0.trans (hb01.mono hb0.size)
  have hoT : OwnOk (ownT own0 w.heap.size) := ownT_ok ho
  have hw0 : WfOwn own0 w := hWf _ _ (Nat.le_refl _) h0
  refine ⟨w.heap.size + 1, [{ target := .collected w.heap.size, args := #[] }], W1, { target := .fn (.func gf) lb, args := #[.func (.yield (w.heap.size + 1)) #[] #[]] }, W1, gf,
    #[.func (.yield (w.heap.size + 1)) #[] #[]] ++ lb, W1, ?_, ?_, ?_, ?_, fun _ => h1, ?_⟩
  · rw [← hW1, hrec]; exact run_enterLoop_outer _ _ _ _ _
  · simp only [resolve, hg]
    simp [go_sem]
  · intro f' hf'; simp [Target.leads] at hf'; subst hf'; exact hFg
  · simp [invoke, go_sem, eg]
  · refine (hseq (w.heap.size + 1) (ownT own0 w.heap.size)
      (fun pre W => w.heap.size + 2 ≤ W.heap.size ∧ I pre W ∧ W.heap[w.heap.size + 1]? = some (.loop (rec .ready none)) ∧ W.heap[w.heap.size]? = some (.deferred (some [])))
      (fun pre W => w.heap.size + 2 ≤ W.heap.size ∧ Ix pre W ∧ W.heap[w.heap.size + 1]? = some (.loop (rec .done (some .ret))) ∧ W.heap[w.heap.size]? = some (.deferred (some [])))
      W1 hoT hb1 (fun k hk => ?_) (fun s A B hs hst => ?_) (fun s A hs => ownT_wf (hWf s A (by omega) hs.2.1) hs.1) ?_ ⟨by omega, hI1, hL1, hK1⟩).mono ?_
    · rcases hk with hk | hk | hk
      · exact hown0 k ((ho w W1 hw0 (by omega) (fun k h => hb01.block k (hw0 k h)) k).1 hk)
      · have := hb0.size; omega
      · have := hb0.size; omega
    · obtain ⟨hz, hi, hl, hk⟩ := hs
      refine ⟨Nat.le_trans hz hst.size, hI s A B (by omega) hi ⟨hst.os, hst.tape, hst.output, hst.size, fun k hk1 hk2 => hst.keep k hk1 ?_⟩, (hst.keep _ (by omega) (.inl (.inr (.inr rfl)))).trans hl, (hst.keep _ (by omega) (.inl (.inr (.inl rfl)))).trans hk⟩
      rcases hk2 with h | h
      · exact .inl (.inl h)
      · exact .inr (by omega)
    · rintro pre x W ⟨hz, hi, hl, hk⟩ hlen
      have hy := run_yield (P := P) (args := #[enc x]) hl (by rw [hrec]; exact hps.symm)
      rw [hrec] at hy
      refine ⟨fn, _, assign, body, hy, roundIn_of_wpIn hfn (hassign _ pre x W _ hz hi ?_)⟩
      clear hy
      intro a' Wa hba hax
      have hza : w.heap.size + 2 ≤ Wa.heap.size := Nat.le_trans hz hba.size
      have hla : Wa.heap[w.heap.size + 1]? = some (.loop (rec .ready none)) := (hba.block _ (by omega)).trans hl
      have hka : Wa.heap[w.heap.size]? = some (.deferred (some [])) := (hba.block _ (by omega)).trans hk
      have hia : I pre Wa := hI _ _ _ (by omega) hi (IterStep.of_new hba)
      refine ⟨_, run_beginRound hla (by rw [hrec]), ?_⟩
      obtain ⟨W2, hW2⟩ : ∃ W2, Wa.putObj (w.heap.size + 1) (.loop { rec .ready none with state := .busy }) = W2 := ⟨_, rfl⟩
      have hl2 : W2.heap[w.heap.size + 1]? = some (.loop { rec .ready none with state := .busy }) := by rw [← hW2]; exact World.putObj_heap_same (by omega)
      have hk2 : W2.heap[w.heap.size]? = some (.deferred (some [])) := by rw [← hW2]; exact (World.putObj_heap_other (by omega)).trans hka
      have hnla : ¬ own0 Wa (w.heap.size + 1) := fun h => (hown _ Wa hza hia _ h).2 rfl
      have hwr : Wrote Wa W2 (w.heap.size + 1) := by rw [← hW2]; exact wrote_putObj _ _ _
      have hz2 : w.heap.size + 2 ≤ W2.heap.size := by rw [hwr.size]; exact hza
      have hi2 : I pre W2 := hI _ _ _ (by omega) hia (IterStep.wrote hwr hnla (by omega))
      rw [hW2]
      refine wpIn_mono (hbody _ pre x a' W2 hz2 hi2 (hAx x a' Wa W2 hax (fun k hk => hwr.block k hk) hza) hlen) ?_
      rintro e a3 W3 (⟨rfl, hb3, hi3⟩ | ⟨rfl, hkk, hz3, hix⟩)
      rotate_left 1
      · have hl3 : W3.heap[w.heap.size + 1]? = some (.loop { rec .ready none with state := .busy }) := (hkk _ (.inr rfl)).trans hl2
        have hk3 : W3.heap[w.heap.size]? = some (.deferred (some [])) := (hkk _ (.inl rfl)).trans hk2
        have hr := run_endRound (P := P) (some .ret) hl3
        have hr' : (Instr.endRound (w.heap.size + 1) (some .ret)).run P W3 = .ok (.bool (some Code.ret).isNone) (W3.putObj (w.heap.size + 1) (.loop (rec .done (some .ret)))) := by
          rw [hrec] at hr ⊢; exact hr
        exact ⟨_, _, hr', .inr ⟨rfl, by simp; exact hz3, hIx _ _ _ hz3 hix, World.putObj_heap_same (by omega), (World.putObj_heap_other (by omega)).trans hk3⟩⟩
      have hz3 : w.heap.size + 2 ≤ W3.heap.size := Nat.le_trans hz2 hb3.size
      have hl3 : W3.heap[w.heap.size + 1]? = some (.loop { rec .ready none with state := .busy }) := (hb3.keep _ (by omega) (fun h => (hown _ W2 hz2 hi2 _ h).2 rfl)).trans hl2
      have hk3 : W3.heap[w.heap.size]? = some (.deferred (some [])) := (hb3.keep _ (by omega) (fun h => (hown _ W2 hz2 hi2 _ h).1 rfl)).trans hk2
      have hr := run_endRound (P := P) none hl3
      obtain ⟨W4, hW4⟩ : ∃ W4, W3.putObj (w.heap.size + 1) (.loop (rec .ready none)) = W4 := ⟨_, rfl⟩
      have hwr4 : Wrote W3 W4 (w.heap.size + 1) := by rw [← hW4]; exact wrote_putObj _ _ _
      have hnl3 : ¬ own0 W3 (w.heap.size + 1) := fun h => (hown _ W3 hz3 hi3 _ h).2 rfl
      have hr' : (Instr.endRound (w.heap.size + 1) none).run P W3 = .ok (.bool (none : Option Code).isNone) W4 := by
        rw [← hW4]; rw [hrec] at hr ⊢; exact hr
      have e1 : ∀ k, own0 Wa k ↔ own0 W k := fun k => ho W Wa (hWf _ _ (by omega) hi) hba.size (fun k h => hba.block k (hWf _ _ (by omega) hi k h)) k
      have e2 : ∀ k, own0 W2 k ↔ own0 Wa k := fun k => IterStep.own ho (hWf _ _ (by omega) hia) (IterStep.wrote (B := 0) hwr hnla (Nat.zero_le _)) k
      have e4 : ∀ k, own0 W4 k ↔ own0 W3 k := fun k => IterStep.own ho (hWf _ _ (by omega) hi3) (IterStep.wrote (B := 0) hwr4 hnl3 (Nat.zero_le _)) k
      refine ⟨_, W4, hr', .inl ⟨rfl, ⟨by rw [hwr4.size]; exact hz3, hI _ _ _ (by omega) hi3 (IterStep.wrote hwr4 hnl3 (by omega)), by rw [← hW4]; exact World.putObj_heap_same (by omega), by rw [← hW4]; exact (World.putObj_heap_other (by omega)).trans hk3⟩, ?_, ?_, ?_⟩⟩
      · have := hba.size; have := hwr.size; have := hb3.size; have := hwr4.size; omega
      · rintro k (h | h | h)
        · rcases hb3.owns k ((e4 k).1 h) with h' | h'
          · exact .inl (.inl ((e1 k).1 ((e2 k).1 h')))
          · exact .inr (by have := hba.size; have := hwr.size; omega)
        · exact .inl (.inr (.inl h))
        · exact .inl (.inr (.inr h))
      · intro k hk4 hn4
        have hnl : k ≠ w.heap.size + 1 := fun h => hn4 (.inr (.inr h))
        have hn0 : ¬ own0 W k := fun h => hn4 (.inl h)
        rw [hwr4.block k hnl, hb3.keep k (by have := hba.size; have := hwr.size; omega) (fun h => hn0 ((e1 k).1 ((e2 k).1 h))), hwr.block k hnl, hba.block k hk4]
    · rintro e W2 ⟨⟨v, rfl⟩, (⟨xs, hS, hz, hi, hl, hk⟩ | ⟨pre, hz, hix, hl, hk⟩)⟩
      rotate_left 1
      · refine ⟨some .ret, _, by have := run_endLoop (P := P) hl (by rw [hrec]; simp); rw [hrec] at this; exact this, ?_⟩
        exact hstop pre _ (by simp; exact hz) (hIx _ _ _ hz hix) ((World.putObj_heap_other (by omega)).trans hk)
      exact ⟨none, _, by have := run_endLoop (P := P) hl (by rw [hrec]; simp); rw [hrec] at this; exact this, hdone xs _ (by simp; exact hz) hS (hI _ _ _ (by omega) hi (IterStep.put (fun h => (hown _ W2 hz hi _ h).2 rfl) (by omega) _)) ((World.putObj_heap_other (by omega)).trans hk)⟩

end Go.Proofs.Ytnclljamcfoolaa
namespace Go.Proofs.Ytnclljamcfoolaa
open Go.RowKit Go.Shelf Go.Maps
set_option linter.unusedVariables false
set_option linter.unusedSimpArgs false

theorem info121 : (Try.prog.info? 121).map (fun i => (i.zero, i.size, i.bytes)) = some (some .nilIface, 1, 16) := by kernel_rfl
theorem grown_below {w w1 w2 : World} {row : Option Nat} (h : Below w.heap.size w w1) (hg : w1.grownBy w2 row) : w.grownBy w2 row :=
  ⟨hg.os.trans h.os, hg.tape.trans h.tape, hg.output.trans h.output, Nat.le_trans h.size hg.size, fun k hk hn => (hg.block k (Nat.lt_of_lt_of_le hk h.size) hn).trans (h.block k hk)⟩

theorem grown_of_below {w w1 : World} (hb : Below w.heap.size w w1) (row : Option Nat) : w.grownBy w1 row := ⟨hb.os, hb.tape, hb.output, hb.size, fun k hk _ => hb.block k hk⟩

theorem row_of_any {α : Type} {enc : α → List Value} {sz : Nat} (hsz : ∀ x, (enc x).length = sz) {w : World} {base e n : Nat} {v : Value} {l : List α} (hn : l.length = n) (h : w.ownsRow base e sz v n (flat enc l)) :
    ∃ A c, v = .slice A n c ∧ Row enc sz w A l ∧ ∀ a, A = some a → a.block < w.heap.size := by
  have h0 := h
  have hlt := h.lt
  obtain ⟨h1, ⟨rfl, rfl⟩ | ⟨g, cap, cur, rfl, h3⟩⟩ := h
  · exact ⟨none, 0, rfl, .inl (List.length_eq_zero_iff.1 hn), fun a ha => by cases ha⟩
  · exact ⟨_, _, rfl, row_of_own hsz h0, fun a ha => by cases ha; exact (hlt g rfl).2⟩

set_option maxRecDepth 100000 in
set_option maxHeartbeats 4000000 in
theorem truthsR_calls (slack : Int) (x : Rg) (ls : List Ct) (hl6 : ls.length ≤ 7) (b o c1 : Nat) (A2 : Option Addr) (c2 : Nat) (w : World) (h1 : Row Rg.cs 2 w (some ⟨b, o, none⟩) [x]) (h2 : Row Rd.cs 6 w A2 (ls.map Ct.rd)) :
    Calls Try.prog 82 #[.agg #[.int .i64 slack, .slice (some ⟨b, o, none⟩) 1 c1, .slice A2 ls.length c2]] w fun ed w' => ∃ be bl Ai ci, ed = .returned (.func (.func 104) #[] #[.pointer (some ⟨be, 0, none⟩), .pointer (some ⟨bl, 0, none⟩)]) ∧ Hid (FwR slack x ls c1 A2 ls.length c2 Ai ci be bl b o w') ∧ Below w.heap.size w w' := by
  obtain ⟨i0, hi, hz0, hz1, hz2⟩ := info_parts info121
  have H1 := Lib.hid h1
  have H2 := Lib.hid h2
  clear h1 h2
  go_enter Try.func82, Try.ntmps82
  go_upto_region 2 with (fail)
  generalize hW : (w.alloc _).alloc _ = W
  generalize h2_ : w.heap.size + 1 = g2
  generalize h1_ : w.heap.size = g1
  obtain ⟨hB0_, Hg1, Hg2, kg1, kg2, fg1, fg2, lg1, lg2, bg1, bg2, ng12, ng21⟩ := gen2 w _ _ _ _ hW h2_ h1_
  clear hW h1_ h2_
  have H0W := Lib.hid hB0_
  clear hB0_
  have HHg1 := Lib.hid Hg1
  have HHg2 := Lib.hid Hg2
  clear Hg1 Hg2
  go_wp2_with fail
  have HNE := Lib.hid (show g2 ≠ g1 from fun h => by rw [h] at HHg2; have := HHg1.out.symm.trans HHg2.out; simp at this)
  have hr1 := (H1.out.below H0W.out).rg 0 (by simp)
  go_loopw [9] (fun i wr => ∃ (k : Nat) (v : Value), k ≤ ls.length ∧ i = .int .i64 k ∧ Hid (wr.heap[g2]? = some (.cells #[v] 160 (0, 0)) ∧ wr.ownsRow W.heap.size 121 1 v k (flat (ifc slack) (ls.take k)) ∧ Below w.heap.size w wr ∧ W.heap.size ≤ wr.heap.size ∧ wr.heap[g1]? = W.heap[g1]?)) (fun i _ => ls.length - (intOf i).toNat)
  case atStart => exact ⟨0, .slice none 0 0, Nat.zero_le _, rfl, Lib.hid ⟨HHg2.out, own_nil _ _ _ _, H0W.out, Nat.le_refl _, rfl⟩⟩
  case round =>
    obtain ⟨k, v, hk, rfl, HH⟩ := hrel
    clear kg1 kg2 fg1 fg2
    have k1 := fun i => cell_of_row wr g1 i _ _ _ (HH.out.2.2.2.2.trans HHg1.out)
    have k2 := fun i => cell_of_row wr g2 i _ _ _ HH.out.1
    have lg2' := (Array.getElem?_eq_some_iff.1 HH.out.1).1
    have lg1' := Nat.lt_of_lt_of_le lg1 HH.out.2.2.2.1
    have hvb : ∀ q, v.ownBlock = some q → W.heap.size ≤ q := fun q hq => (HH.out.2.1.lt q hq).1
    by_cases hlt : k < ls.length
    · have hlti : ((k : Int) < (ls.length : Int)) := by omega
      obtain ⟨b2, o2, hA, hlb, c0, c1, c2', c3, c4, c5⟩ := Row.ct (H2.out.below HH.out.2.2.1) k hlt
      subst hA
      have HVB := Lib.hid hvb
      clear hvb
      go_upto_region 5 with (fail)
      generalize hW : wr.alloc _ = V
      generalize h1_ : wr.heap.size = x1
      obtain ⟨hB0_, Hx1, kx1, fx1, lx1, bx1⟩ := gen1 wr _ _ hW h1_
      clear hW h1_
      have H0V := Lib.hid hB0_
      clear hB0_
      have HHx1 := Lib.hid Hx1
      clear Hx1
      have HB := Lib.hid (Below.refl V.heap.size V)
      have hR := Lib.hid (readingOf_calls ls[k] slack)
      have m1 := Nat.lt_of_lt_of_le lg1' H0V.out.size
      have m2 := Nat.lt_of_lt_of_le lg2' H0V.out.size
      have e1 := fun j => ((CB.of H0V.out).1 g1 j lg1').trans (k1 j)
      have e2 := fun j => ((CB.of H0V.out).1 g2 j lg2').trans (k2 j)
      clear k1 k2 c0 c1 c2' c3 c4 c5 fx1
      refine wp_region_peel (S := fun w' => (∀ j, w'.cell? ⟨x1, j, none⟩ = #[Value.int IntKind.i64 1, Value.int IntKind.i64 0, Value.int IntKind.i64 0, Value.int IntKind.i64 ls[k].secs, Value.int IntKind.i64 ls[k].shown.mn, Value.int IntKind.i64 ls[k].shown.mx][j]?) ∧ w'.cell? ⟨g1, 0, none⟩ = some (.int .i64 slack) ∧ w'.cell? ⟨g2, 0, none⟩ = some v ∧ V.grownBy w' v.ownBlock) 7 _ _ (by kernel_rfl) rfl rfl rfl (by kernel_rfl) (by kernel_rfl) ⟨kx1, e1 0, e2 0, grown_of_below (bl_drew (Below.refl _ _)) _⟩ (fun hHeld => ?_)
      simp only [Act.put, stillOf, List.set_cons_succ, List.set_cons_zero, List.setIfInBounds_toArray, List.getElem_toArray, List.getElem_cons_succ, List.getElem_cons_zero]
      refine wpAnyH_take (i := 0) (v := ?_) rfl (by kernel_rfl) (by kernel_rfl) (by kernel_rfl) (fun _ _ _ h => h) (Or.inl ⟨by rfl, ?_⟩) (by assumption) ?_; rotate_left 1; (focus ((intro w_ hS_; (try dsimp only at hS_); go_simp; first | done | with_reducible rfl))); simp only [Act.put, stillOf, List.set_cons_succ, List.set_cons_zero, List.setIfInBounds_toArray, List.getElem_toArray, List.getElem_cons_succ, List.getElem_cons_zero]
      refine wpAnyH_take (i := 1) (v := ?_) rfl (by kernel_rfl) (by kernel_rfl) (by kernel_rfl) (fun _ _ _ h => h) (Or.inl ⟨by rfl, ?_⟩) (by assumption) ?_; rotate_left 1; (focus ((intro w_ hS_; (try dsimp only at hS_); go_simp; first | done | with_reducible rfl))); simp only [Act.put, stillOf, List.set_cons_succ, List.set_cons_zero, List.setIfInBounds_toArray, List.getElem_toArray, List.getElem_cons_succ, List.getElem_cons_zero]
      refine wpAnyH_take (i := 2) (v := ?_) rfl (by kernel_rfl) (by kernel_rfl) (by kernel_rfl) (fun _ _ _ h => h) (Or.inl ⟨by rfl, ?_⟩) (by assumption) ?_; rotate_left 1; (focus ((intro w_ hS_; (try dsimp only at hS_); go_simp; first | done | with_reducible rfl))); simp only [Act.put, stillOf, List.set_cons_succ, List.set_cons_zero, List.setIfInBounds_toArray, List.getElem_toArray, List.getElem_cons_succ, List.getElem_cons_zero]
      refine wpAnyH_take (i := 3) (v := ?_) rfl (by kernel_rfl) (by kernel_rfl) (by kernel_rfl) (fun _ _ _ h => h) (Or.inl ⟨by rfl, ?_⟩) (by assumption) ?_; rotate_left 1; (focus ((intro w_ hS_; (try dsimp only at hS_); go_simp; first | done | with_reducible rfl))); simp only [Act.put, stillOf, List.set_cons_succ, List.set_cons_zero, List.setIfInBounds_toArray, List.getElem_toArray, List.getElem_cons_succ, List.getElem_cons_zero]
      refine wpAnyH_ready (rs := [4]) (by kernel_rfl) (by simp) (AllReadyH.cons rfl (fun K hK => ?_) AllReadyH.nil)
      go_simp
      (go_at_call 67; refine (hR.out _).mono ?_; rintro e_ w1 ⟨rfl, hb_⟩; have HB_ := Lib.hid (bl_then2 (by (repeat (with_reducible first | exact HB.out | apply bl_alloc2 | apply bl_drew2 | apply bl_drewN2))) hb_); clear HB hb_; (try clear hq); have HB := HB_; clear HB_; have hq := CB.of HB.out)
      refine hK.out _ _ ⟨fun j => (hq.1 _ _ lx1).trans (kx1 j), (hq.1 _ _ m1).trans (e1 0), (hq.1 _ _ m2).trans (e2 0), grown_of_below HB.out _⟩ (fun hHeld => ?_)
      clear hK K
      refine wpAnyH_ready (rs := [5]) (by kernel_rfl) (by simp) (AllReadyH.cons rfl (fun K hK => ?_) AllReadyH.nil)
      go_simp
      have hB2 := bl_alloc HB.out (.cells #[Value.iface 149 (ls[k].cv slack)] 121)
      have hN2 := heap_new w1 (.cells #[Value.iface 149 (ls[k].cv slack)] 121)
      have hzw : V.heap.size ≤ w1.heap.size := HB.out.size
      generalize hW2 : w1.alloc _ = W2 at hB2 hN2 ⊢
      generalize w1.heap.size = gn at hN2 hzw ⊢
      clear hW2 hq HB
      have HB := Lib.hid hB2
      have hq := CB.of HB.out
      refine hK.out _ _ ⟨fun j => (hq.1 _ _ lx1).trans (kx1 j), (hq.1 _ _ m1).trans (e1 0), (hq.1 _ _ m2).trans (e2 0), grown_of_below HB.out _⟩ (fun hHeld => ?_)
      clear hK K
      have hrow2 := own_below (own_below HH.out.2.1 H0V.out) HB.out
      refine wpAnyH_ready (rs := [6]) (by kernel_rfl) (by simp) (AllReadyH.cons rfl (fun K hK => ?_) AllReadyH.nil)
      refine step_append_lies W2 rfl _ _ 160 rfl W.heap.size 121 i0 _ 1 16 rfl hi hz0 hz1 hz2 rfl (by decide) v k (flat (ifc slack) (ls.take k)) rfl hrow2 ⟨gn, 0, none⟩ 1 1 (ifc slack ls[k]) rfl rfl (World.news_of_block (t := 121) (fr := (0, 0)) hN2) ?a1 (by omega) ?a2 ?a3 ?a4 _ rfl ?_
      case a1 => simp [Value.oneCell', ifc]
      case a2 => unfold maxLen; omega
      case a3 => omega
      case a4 => have := HH.out.2.2.2.1; have := H0V.out.size; have := HB.out.size; omega
      intro g cap w3 hown' hgrow hat hgl
      have hW2z : V.heap.size ≤ W2.heap.size := HB.out.size
      have hgw3 := grown_below HB.out hgrow
      have q1 : x1 < V.heap.size → some x1 ≠ v.ownBlock := fun h e => by have := (HH.out.2.1.lt x1 e.symm).2; omega
      have q2 : some g1 ≠ v.ownBlock := fun e => by have := HVB.out g1 e.symm; omega
      have q3 : some g2 ≠ v.ownBlock := fun e => by have := HVB.out g2 e.symm; omega
      have HG2 : w3.heap[g2]? = some (.cells #[v] 160 (0, 0)) := (hgw3.block g2 m2 q3).trans ((H0V.out.block g2 lg2').trans HH.out.1)
      have s1 : ∀ j, w3.cell? ⟨x1, j, none⟩ = #[Value.int IntKind.i64 1, Value.int IntKind.i64 0, Value.int IntKind.i64 0, Value.int IntKind.i64 ls[k].secs, Value.int IntKind.i64 ls[k].shown.mn, Value.int IntKind.i64 ls[k].shown.mx][j]? := fun j => (World.cell?_of_block (w := V) (a := ⟨x1, j, none⟩) (hgw3.block x1 lx1 (q1 lx1))).trans (kx1 j)
      have s2 : w3.cell? ⟨g1, 0, none⟩ = some (.int .i64 slack) := (World.cell?_of_block (w := V) (a := ⟨g1, 0, none⟩) (hgw3.block g1 m1 q2)).trans (e1 0)
      have s3 : w3.cell? ⟨g2, 0, none⟩ = some v := cell_of_row w3 g2 0 _ _ _ HG2
      have f3 := frozen_row HG2 0
      simp only [Act.put, stillOf, List.set_cons_succ, List.set_cons_zero, List.setIfInBounds_toArray, List.getElem_toArray, List.getElem_cons_succ, List.getElem_cons_zero]
      refine hK.out _ _ ⟨s1, s2, s3, hgw3⟩ (fun hHeld => ?_)
      clear hK K
      refine wpAnyH_take (i := 7) (v := ?_) rfl (by kernel_rfl) (by kernel_rfl) (by kernel_rfl) (fun _ _ _ h => h) (Or.inl ⟨by rfl, ?_⟩) (by assumption) ?_; rotate_left 1; (focus ((intro w_ hS_; (try dsimp only at hS_); go_simp; first | done | with_reducible rfl))); simp only [Act.put, stillOf, List.set_cons_succ, List.set_cons_zero, List.setIfInBounds_toArray, List.getElem_toArray, List.getElem_cons_succ, List.getElem_cons_zero]
      refine wpAnyH_done (by kernel_rfl) ?_ _
      have HGW := Lib.hid hgw3
      have HOWN := Lib.hid hown'
      have HAT := Lib.hid hat
      have HG22 := Lib.hid HG2
      clear s1 s2 hHeld hgw3 hown' hat hgrow hrow2 hq HB q1 q2 q3 HG2
      unfold Peeled
      dsimp only
      go_simp
      go_wp2_with fail
      have hw4 : Wrote w3 (w3.setCell ⟨g2, 0, none⟩ (.slice (some ⟨g, 0, none⟩) (k + 1) cap)) g2 := wrote_setCell _ _ _ _
      have hv4 : (w3.setCell ⟨g2, 0, none⟩ (.slice (some ⟨g, 0, none⟩) (k + 1) cap)).heap[g2]? = some (.cells #[.slice (some ⟨g, 0, none⟩) (k + 1) cap] 160 (0, 0)) := by
        rw [setCell_eq_setRow w3 g2 0 _ _ _ _ HG22.out]; exact setRow_heap HG22.out
      generalize w3.setCell ⟨g2, 0, none⟩ (.slice (some ⟨g, 0, none⟩) (k + 1) cap) = w4 at hw4 hv4 ⊢
      have hgg : g ≠ g2 := by
        rcases HAT.out with h | h
        · have := HVB.out g h; omega
        · rw [h]; intro e; rw [e] at hW2z; omega
      have hb3 : Below w.heap.size w w3 := bl_grown (bl_then HH.out.2.2.1 H0V.out) (Nat.le_trans HH.out.2.2.1.size H0V.out.size) HGW.out (fun q hq => by have := HVB.out q hq; have := H0W.out.size; omega)
      refine ⟨⟨k + 1, _, hlt, by simp, Lib.hid ⟨hv4, ?_, hw4.below hb3 bg2, ?_, ?_⟩⟩, ?_⟩
      · rw [List.take_succ_eq_append_getElem hlt, flat_snoc]
        obtain ⟨q1, q2 | ⟨gq, capq, curq, q3, q4, q5, q6⟩⟩ := HOWN.out
        · cases q2.1
        · obtain ⟨rfl, rfl⟩ : g = gq ∧ cap = capq := by simpa using q3
          exact ⟨q1, .inr ⟨g, cap, curq, rfl, q4, (hw4.block g hgg).trans q5, q6⟩⟩
      · rw [hw4.size]; have := HGW.out.size; have := HH.out.2.2.2.1; have := H0V.out.size; omega
      · refine (hw4.block g1 (fun e => HNE.out e.symm)).trans ((HGW.out.block g1 m1 (fun e => by have := HVB.out g1 e.symm; omega)).trans ((H0V.out.block g1 lg1').trans HH.out.2.2.2.2))
      · simp [intOf]; omega
    · have hlti : ¬ ((k : Int) < (ls.length : Int)) := by omega
      obtain rfl : k = ls.length := by omega
      obtain ⟨A, c, rfl, hrow, hAl⟩ := row_of_any (enc := ifc slack) (fun _ => rfl) (l := ls) rfl (show wr.ownsRow W.heap.size 121 1 v ls.length (flat (ifc slack) ls) by have := HH.out.2.1; rw [List.take_length] at this; exact this)
      go_wp2
      go_ret
      have hxr := (H1.out.below HH.out.2.2.1).rg 0 (by simp)
      obtain ⟨b', o', hA', hb', r0, r1⟩ := hxr
      obtain ⟨rfl, rfl⟩ : b = b' ∧ o = o' := by simpa using hA'
      exact ⟨g1, g2, rfl, ⟨A, c, Lib.hid ⟨k1, k2 0, ⟨by simpa using r0, by simpa using r1⟩, hrow, lg1', lg2', hb', hAl⟩⟩, HH.out.2.2.1⟩
end Go.Proofs.Ytnclljamcfoolaa
namespace Go.Proofs.Ytnclljamcfoolaa
open Go.RowKit Go.Shelf Go.Maps
attribute [local go_sem] Oper.semAt_some
set_option linter.unusedVariables false
set_option linter.unusedSimpArgs false

/-- an ear of one tone with counts -/
def earC (slack : Int) (x : Rg) (ls : List Ct) : Ear := ⟨slack, [x], ls.map Ct.rd⟩
theorem readErr_ct {r : Rd} (h : readErr r 1 = 0) : ∃ c : Ct, c.Ok ∧ c.rd = r := by
  obtain ⟨k, a, b, s, sh⟩ := r
  unfold readErr at h
  simp only at h
  split at h
  · cases h
  split at h
  · cases h
  split at h
  · cases h
  split at h
  · cases h
  split at h
  · cases h
  next h1 h2 h3 h4 h5 =>
  rw [Bool.not_eq_false, inB_true] at h1 h2
  have hk : k = 1 := by
    rcases Decidable.em (k = 1) with hk | hk
    · exact hk
    · exfalso
      have h6 : inB b 0 (1 - 1) = true := by
        cases hb : inB b 0 (1 - 1) with
        | true => rfl
        | false => exact absurd ⟨hk, hb⟩ h4
      rw [inB_true] at h6
      exact h5 ⟨hk, by omega⟩
  subst hk
  have hb : b = 0 := by
    rcases Decidable.em (b = 0) with hb | hb
    · exact hb
    · exact absurd ⟨rfl, hb⟩ h3
  obtain rfl : a = 0 := by omega
  subst hb
  simp only [if_neg (show ¬ ((1 : Int) = 3) by omega)] at h
  split at h
  · cases h
  split at h
  · cases h
  split at h
  · cases h
  split at h
  · cases h
  next g1 g2 g3 g4 =>
  rw [Bool.not_eq_false, inB_true] at g1 g2 g3
  exact ⟨⟨s, sh⟩, ⟨g1.1, g1.2, g2.1, (by show sh.mn ≤ sh.mx; omega), g3.2⟩, rfl⟩
theorem cts_of {l : List Rd} (h : ∀ r ∈ l, readErr r 1 = 0) : ∃ ls : List Ct, ls.map Ct.rd = l ∧ ∀ c ∈ ls, c.Ok := by
  induction l with
  | nil => exact ⟨[], rfl, fun c hc => by cases hc⟩
  | cons r l ih =>
    obtain ⟨ls, h1, h2⟩ := ih (fun r hr => h r (List.mem_cons_of_mem _ hr))
    obtain ⟨c, h3, h4⟩ := readErr_ct (h r List.mem_cons_self)
    exact ⟨c :: ls, by simp [h1, h4], fun d hd => by rcases List.mem_cons.1 hd with rfl | hd; exact h3; exact h2 d hd⟩
theorem earC_of {e : Ear} (he : earErr e = 0) (h1 : e.tones.length = 1) : ∃ x ls, e = earC e.slack x ls ∧ (∀ c ∈ ls, c.Ok) ∧ ls.length ≤ 6 := by
  obtain ⟨slack, tones, reads⟩ := e
  simp only at h1
  match tones, h1 with
  | [x], _ =>
    have h6 : reads.length ≤ 6 ∧ firstErr (fun r => readErr r 1) reads = 0 := by
      unfold earErr at he
      simp only [List.length_cons, List.length_nil] at he
      split at he
      · cases he
      split at he
      · cases he
      split at he
      · cases he
      split at he
      · next h => exact absurd he h
      split at he
      · cases he
      exact ⟨by omega, by simpa using he⟩
    obtain ⟨ls, h7, h8⟩ := cts_of ((firstErr_zero _ _).1 h6.2)
    exact ⟨x, ls, by simp [earC, h7], h8, by have := congrArg List.length h7; simp at this; omega⟩
theorem earC_bd {slack : Int} {x : Rg} {ls : List Ct} (he : earErr (earC slack x ls) = 0) : (0 ≤ slack ∧ slack ≤ 3) ∧ (1 ≤ x.mn ∧ x.mn ≤ 100000 ∧ 1 ≤ x.mx ∧ x.mx ≤ 100000) ∧ x.mn ≤ x.mx ∧ x.mx - x.mn ≤ 20 := by
  obtain ⟨-, -, h3⟩ := earErr_zero he
  obtain ⟨a1, a2, a3, a4, a5, a6⟩ := h3 x (by simp [earC])
  refine ⟨?_, ⟨a1, a2, a3, a4⟩, a5, a6⟩
  unfold earErr at he
  split at he
  · cases he
  next h => rwa [Bool.not_eq_false, inB_true] at h
theorem keptC_len {slack : Int} {x : Rg} {ls : List Ct} (h : x.mx - x.mn ≤ 20) : (keptC slack x ls).length ≤ 21 := by
  unfold keptC keptN
  have := List.length_filter_le (fun n => fitsC slack n ls) (uptoN x (x.mx - x.mn + 1).toNat)
  simp [uptoN] at this ⊢
  omega

theorem collectR_calls (slack : Int) (hsl : 0 ≤ slack ∧ slack ≤ 3) (x : Rg) (hb : 1 ≤ x.mn ∧ x.mn ≤ 100000 ∧ 1 ≤ x.mx ∧ x.mx ≤ 100000) (hx : x.mx - x.mn ≤ 20) (ls : List Ct) (hls : ∀ r ∈ ls, r.Ok) (hl6 : ls.length ≤ 7) (c1 : Nat) (A2 : Option Addr) (n2 c2 : Nat) (Ai : Option Addr) (ci be bl b o : Nat)
    (w : World) (hF : FwR slack x ls c1 A2 n2 c2 Ai ci be bl b o w) :
    Calls Try.prog 95 #[.func (.func 104) #[] #[.pointer (some ⟨be, 0, none⟩), .pointer (some ⟨bl, 0, none⟩)]] w fun ed w' => ∃ v, ed = .returned v ∧ w'.ownsRow w.heap.size 93 3 v (keptC slack x ls).length (flat T3.cs (keptC slack x ls)) ∧ Below w.heap.size w w' := by
  have hl := keptC_len (slack := slack) (ls := ls) hx
  have HA : ∀ w, FwR slack x ls c1 A2 n2 c2 Ai ci be bl b o w → Calls Try.prog 109 #[.slice none 0 0, .func (.func 104) #[] #[.pointer (some ⟨be, 0, none⟩), .pointer (some ⟨bl, 0, none⟩)]] w fun ed w' => ∃ v, ed = .returned v ∧ w'.ownsRow w.heap.size 93 3 v (keptC slack x ls).length (flat T3.cs (keptC slack x ls)) ∧ Below w.heap.size w w' := by
    intro w hF
    refine (callsIn_wide (n := 3)).1 ((appendSeq_in Fence.wide 3 trivial rfl (by omega) 104 _ trivial (enters_of Try.func104 (by kernel_rfl) rfl) _ (keptC slack x ls).length (by unfold maxLen; omega) (by omega) w
      (truthsR_seq 2 slack hsl x hb ls hls hl6 c1 A2 n2 c2 Ai ci be bl b o w hF).all).mono ?_)
    rintro ed w' ⟨v, ss, rfl, rfl, hr, hb⟩
    exact ⟨v, rfl, hr, hb⟩
  have HF := Lib.hid hF
  clear hF
  go_enter Try.func95, Try.ntmps95
  go_wp2_with (go_at_call 109; refine (HA _ HF.out).mono ?_; rintro e_ w1 ⟨v, rfl, hr, hb⟩; have HR := Lib.hid hr; clear hr)
  go_ret
  exact ⟨v, rfl, HR.out, hb⟩

set_option maxRecDepth 100000 in
set_option maxHeartbeats 1000000 in
theorem knownR_calls (slack : Int) (x : Rg) (ls : List Ct) (hls : ∀ r ∈ ls, r.Ok) (hl6 : ls.length ≤ 6) (he : earErr (earC slack x ls) = 0) (b o c1 : Nat) (A2 : Option Addr) (c2 : Nat) (w : World) (h1 : Row Rg.cs 2 w (some ⟨b, o, none⟩) [x]) (h2 : Row Rd.cs 6 w A2 (ls.map Ct.rd)) :
    Calls Try.prog 71 #[.agg #[.int .i64 slack, .slice (some ⟨b, o, none⟩) 1 c1, .slice A2 ls.length c2]] w fun ed w' => (keptC slack x ls = [] ∧ ed = .returned (.tuple #[.slice none 0 0, .int .i64 9]) ∧ Below w.heap.size w w') ∨
      (keptC slack x ls ≠ [] ∧ ∃ v, ed = .returned (.tuple #[v, .int .i64 0]) ∧ w'.ownsRow w.heap.size 93 3 v (keptC slack x ls).length (flat T3.cs (keptC slack x ls)) ∧ Below w.heap.size w w') := by
  have hC := Lib.hid (meterCheck_calls (earC slack x ls) (some ⟨b, o, none⟩) A2 c1 c2)
  rw [he] at hC
  simp only [earC, List.length_map, List.length_cons, List.length_nil, Nat.zero_add] at hC
  obtain ⟨hsl, hbx, -, hx20⟩ := earC_bd he
  have HT := Lib.hid (truthsR_calls slack x ls (by omega) b o c1 A2 c2)
  have HCo := Lib.hid (collectR_calls slack hsl x hbx hx20 ls hls (by omega) c1 A2 ls.length c2)
  have hkl := keptC_len (slack := slack) (ls := ls) hx20
  generalize keptC slack x ls = kl at *
  go_enter Try.func71, Try.ntmps71
  go_upto_region 1 with (fail)
  generalize hW : w.alloc _ = W
  generalize h1_ : w.heap.size = g1
  obtain ⟨hB0_, Hg1, kg1, fg1, lg1, bg1⟩ := gen1 w _ _ hW h1_
  clear hW h1_
  have H0W := Lib.hid hB0_
  clear hB0_
  have HHg1 := Lib.hid Hg1
  clear Hg1
  have HB := Lib.hid (Below.refl W.heap.size W)
  have HR := Lib.hid (h1.below H0W.out)
  have HR2 := Lib.hid (h2.below H0W.out)
  clear h1 h2
  go_upto_region 5 with (first
    | ((with_reducible refine ld_gate 41 rfl ?_); refine wpList_load_row rfl 41 _ rfl g1 rfl 41 _ (0, 0) _ ((HB.out.block _ lg1).trans HHg1.out) Try.underlying41 rfl size41 ?_)
    | (go_at_call 49; refine (hC.out _ (HR.out.below HB.out) (HR2.out.below HB.out) (by omega) (by omega)).mono ?_; rintro e_ w1 ⟨rfl, hb_⟩; have HB_ := Lib.hid (bl_then2 (by (repeat (with_reducible first | exact HB.out | apply bl_alloc2 | apply bl_drew2 | apply bl_drewN2))) hb_); clear HB hb_; (try clear hq); have HB := HB_; clear HB_; have hq := CB.of HB.out)
    | (go_at_call 82; refine (HT.out _ (HR.out.below HB.out) (HR2.out.below HB.out)).mono ?_; rintro e_ w1 ⟨be, bl, Ai, ci, rfl, HF, hb_⟩; have HB_ := Lib.hid (bl_then2 (by (repeat (with_reducible first | exact HB.out | apply bl_alloc2 | apply bl_drew2 | apply bl_drewN2))) hb_); clear HB hb_; (try clear hq); have HB := HB_; clear HB_; have hq := CB.of HB.out)
    | (go_at_call 95; refine (HCo.out _ _ _ _ _ _ _ HF.out).mono ?_; rintro e_ w1 ⟨v, rfl, hr, hb_⟩; have HO := Lib.hid hr; have hsz := HB.out.size; clear hr; have HB_ := Lib.hid (bl_then2 (by (repeat (with_reducible first | exact HB.out | apply bl_alloc2 | apply bl_drew2 | apply bl_drewN2))) hb_); clear HB hb_; (try clear hq); have HB := HB_; clear HB_; have hq := CB.of HB.out))
  obtain ⟨A, c, rfl, -, -⟩ := row_of_any (enc := T3.cs) (fun _ => rfl) (l := kl) rfl HO.out
  cases kl with
  | nil =>
    go_wp2_with fail
    go_ret2
    exact ⟨rfl, by (repeat (first | exact bl_then H0W.out HB.out | exact H0W.out | exact HB.out | exact Below.refl _ _ | refine bl_set ?_ (by assumption) _ | refine bl_alloc ?_ _ | refine bl_drew ?_ | refine bl_drewN ?_ _))⟩
  | cons t kl =>
    have hne : ((((t :: kl).length : Nat) : Int) == 0) = false := by simp; omega
    have HNE := Lib.hid hne
    generalize hn : (t :: kl).length = n at hne HO hkl ⊢
    have HN := Lib.hid hn
    clear hn
    go_wp2_with fail
    go_ret2
    obtain rfl := HN.out
    refine .inr ⟨by simp, _, rfl, ?_, by (repeat (first | exact bl_then H0W.out HB.out | exact H0W.out | exact HB.out | exact Below.refl _ _ | refine bl_set ?_ (by assumption) _ | refine bl_alloc ?_ _ | refine bl_drew ?_ | refine bl_drewN ?_ _))⟩
    exact own_weaken HO.out (Nat.le_trans H0W.out.size hsz)
end Go.Proofs.Ytnclljamcfoolaa
namespace Go.Proofs.Ytnclljamcfoolaa
open Go.RowKit Go.Shelf Go.Maps
attribute [local go_sem] Oper.semAt_some
set_option linter.unusedVariables false
set_option linter.unusedSimpArgs false

theorem results_cell_one {P : Program} {fn : Func} {p : Tmp} {ty : TypeId} (h : fn.results = #[.cell p ty]) (tmps : Array Value) (w : World) (g : Nat) (v : Value) (hp : tmps.getD p undef = .pointer (some ⟨g, 0, none⟩)) (hc : w.cell? ⟨g, 0, none⟩ = some v) (ha : (isAgg ty).run P w = .ok false w) :
    (results fn tmps).run P w = .ok v w := by
  have hp' : tmps[p]?.getD undef = .pointer (some ⟨g, 0, none⟩) := by simpa using hp
  simp [results, h, hp', asAddr, loadVar, Sem.run_bind, ha, Result.andThen, go_sem, hc]
theorem isAgg4 (w : World) : (isAgg 4).run Try.prog w = .ok false w := by kernel_rfl

structure MyX (w1 : World) (g : Nat) (W : World) : Prop where
  block : ∀ k, k < w1.heap.size → k ≠ g → W.heap[k]? = w1.heap[k]?
  box : W.heap[g]? = some (.cells #[.bool true] 4 (0, 0))
  os : W.os = w1.os
  tape : W.tape = w1.tape
  output : W.output = w1.output
  size : w1.heap.size ≤ W.heap.size
theorem ownNone_ok : OwnOk (fun _ _ => False) := fun _ _ _ _ _ _ => Iff.rfl

set_option maxRecDepth 100000 in
set_option maxHeartbeats 4000000 in
theorem mayR_calls (slack : Int) (x : Rg) (ls : List Ct) (hls : ∀ r ∈ ls, r.Ok) (hl6 : ls.length ≤ 7) (hsl : 0 ≤ slack ∧ slack ≤ 3) (hbx : 1 ≤ x.mn ∧ x.mn ≤ 100000 ∧ 1 ≤ x.mx ∧ x.mx ≤ 100000) (b o c1 : Nat) (A2 : Option Addr) (c2 : Nat) (w : World) (h1 : Row Rg.cs 2 w (some ⟨b, o, none⟩) [x]) (h2 : Row Rd.cs 6 w A2 (ls.map Ct.rd)) :
    Calls Try.prog 53 #[.agg #[.int .i64 slack, .slice (some ⟨b, o, none⟩) 1 c1, .slice A2 ls.length c2]] w fun ed w' => ed = .returned (.bool (!(keptC slack x ls).isEmpty)) ∧ Below w.heap.size w w' := by
  have HT := Lib.hid (truthsR_calls slack x ls (by omega) b o c1 A2 c2)
  have HS := Lib.hid (fun w be bl Ai ci hF => truthsR_seq 3 slack hsl x hbx ls hls hl6 c1 A2 ls.length c2 Ai ci be bl b o w hF)
  generalize keptC slack x ls = kl at *
  have HR0 := Lib.hid h1
  have HR20 := Lib.hid h2
  clear h1 h2
  refine (callsIn_wide (n := 4)).1 (callsIn_of_wp_marks Try.func53 rfl trivial (wpIn_wide.2 ?_) rfl)
  simp only [Try.ntmps53, List.size_toArray, List.length_cons, List.length_nil, Nat.reduceAdd, Nat.reduceSub, Array.replicate_succ, Array.replicate_zero, List.push_toArray, List.append_toArray, List.nil_append, List.cons_append]
  go_upto_region 1 with (fail)
  generalize hW : (w.alloc _).alloc _ = W
  generalize h2_ : w.heap.size + 1 = g2
  generalize h1_ : w.heap.size = g1
  obtain ⟨hB0_, Hg1, Hg2, kg1, kg2, fg1, fg2, lg1, lg2, bg1, bg2, ng12, ng21⟩ := gen2 w _ _ _ _ hW h2_ h1_
  clear hW h1_ h2_
  have H0W := Lib.hid hB0_
  clear hB0_
  have HHg1 := Lib.hid Hg1
  have HHg2 := Lib.hid Hg2
  clear Hg1 Hg2
  have HB := Lib.hid (Below.refl W.heap.size W)
  have HR := Lib.hid (HR0.out.below H0W.out)
  have HR2 := Lib.hid (HR20.out.below H0W.out)
  go_upto_block 0 with (first
    | ((with_reducible refine ld_gate 41 rfl ?_); refine wpList_load_row rfl 41 _ rfl g1 rfl 41 _ (0, 0) _ ((HB.out.block _ lg1).trans HHg1.out) Try.underlying41 rfl size41 ?_)
    | (go_at_call 82; refine (HT.out _ (HR.out.below HB.out) (HR2.out.below HB.out)).mono ?_; rintro e_ w1 ⟨be, bl, Ai, ci, rfl, HF, hb_⟩; have HB_ := Lib.hid (bl_then2 (by (repeat (with_reducible first | exact HB.out | apply bl_alloc2 | apply bl_drew2 | apply bl_drewN2))) hb_); clear HB hb_; (try clear hq); have HB := HB_; clear HB_; have hq := CB.of HB.out))
  have G2 := Lib.hid ((HB.out.block _ lg2).trans HHg2.out)
  have l2 := Nat.lt_of_lt_of_le lg2 HB.out.size
  have HWW := Lib.hid (bl_then H0W.out HB.out)
  clear HB hq kg1 kg2 fg1 fg2
  go_wp2_with fail
  refine wpIn_wide.1 (rangeOS (n := 4) rfl (by omega) rfl trivial (enters_of Try.func104 (by kernel_rfl) rfl) (HS.out w1 be bl Ai ci HF.out) (Below.refl _ _) rfl (fun _ _ => False) ownNone_ok (fun k h => h.elim)
    (fun pre W' => pre = [] ∧ Below w1.heap.size w1 W') (fun s W' _ _ k h => h.elim) (fun s W1 W2 hz hI hst => ⟨hI.1, ?hI⟩) (fun s W' _ _ k h => h.elim) ⟨rfl, Below.refl _ _⟩
    (fun pre W' => Hid (kl ≠ [] ∧ MyX w1 g2 W')) ?hIx
    (fun y a' W' => a' = { tmps := #[.agg #[.int .i64 slack, .slice (some ⟨b, o, none⟩) 1 c1, .slice A2 ls.length c2], .pointer (some ⟨g1, 0, none⟩), .pointer (some ⟨g2, 0, none⟩), .agg #[.int .i64 slack, .slice (some ⟨b, o, none⟩) 1 c1, .slice A2 ls.length c2], .func (.func 104) #[] #[.pointer (some ⟨be, 0, none⟩), .pointer (some ⟨bl, 0, none⟩)], T3.v y], defers := [] }) ?hAx ?hassign ?hbody ?hdone ?hstop)
  case hI => exact ⟨hst.os.trans hI.2.os, hst.tape.trans hI.2.tape, hst.output.trans hI.2.output, Nat.le_trans hI.2.size hst.size, fun k hk => (hst.keep k (Nat.lt_of_lt_of_le hk hI.2.size) (.inr hk)).trans (hI.2.block k hk)⟩
  case hIx =>
    intro pre W' ob hz h
    exact Lib.hid ⟨h.out.1, fun k hk hn => (World.putObj_heap_other (by omega)).trans (h.out.2.block k hk hn), (World.putObj_heap_other (by omega)).trans h.out.2.box, h.out.2.os, h.out.2.tape, h.out.2.output, by simpa using h.out.2.size⟩
  case hAx =>
    rintro y a' W1 W2 rfl hk hz
    rfl
  case hassign =>
    intro l pre y W' K hz hI hK
    gi_wp2
    exact hK _ _ (Below.refl _ _) (by go_simp)
  case hbody =>
    rintro l pre y a' W' hz ⟨rfl, hI⟩ rfl hlen
    have hG := (hI.block g2 l2).trans G2.out
    have f2 := frozen_row hG 0
    have c2' := cell_of_row W' g2 0 _ _ _ hG
    have HI := Lib.hid hI
    have HG := Lib.hid hG
    clear hI hG
    gi_wp2
    have hwr : Wrote W' (W'.setCell ⟨g2, 0, none⟩ (.bool true)) g2 := wrote_setCell _ _ _ _
    refine ⟨⟨hwr.block _ (by omega), hwr.block _ (by omega)⟩, fun h => by rw [h] at hlen; simp at hlen, ⟨fun k hk hn => (hwr.block k hn).trans (HI.out.block k hk), ?_, hwr.os.trans HI.out.os, hwr.tape.trans HI.out.tape, hwr.output.trans HI.out.output, by rw [hwr.size]; exact HI.out.size⟩⟩
    rw [setCell_eq_setRow W' g2 0 _ _ _ _ HG.out]; exact setRow_heap HG.out
  case hdone =>
    rintro xs W' hz rfl ⟨rfl, hI⟩ hD
    have hG := (hI.block g2 l2).trans G2.out
    have f2 := frozen_row hG 0
    have c2' := cell_of_row W' g2 0 _ _ _ hG
    have HI := Lib.hid hI
    have HG := Lib.hid hG
    clear hI hG
    go_wp2_with fail
    have hw4 := wrote_setCell W' g2 0 (.bool false)
    have hv4 : (W'.setCell ⟨g2, 0, none⟩ (.bool false)).heap[g2]? = some (.cells #[.bool false] 4 (0, 0)) := by
      rw [setCell_eq_setRow W' g2 0 _ _ _ _ HG.out]; exact setRow_heap HG.out
    have hD4 := (hw4.block w1.heap.size (by omega)).trans hD
    generalize W'.setCell ⟨g2, 0, none⟩ (.bool false) = W4 at hw4 hv4 hD4 ⊢
    refine ⟨by simp, .inl ⟨_, _, rfl, run_takeDeferred hD4, ?_⟩⟩
    refine ⟨_, results_cell_one rfl _ _ g2 (.bool false) rfl (cell_of_row _ g2 0 _ _ _ ((World.putObj_heap_other (by omega)).trans hv4)) (isAgg4 _), rfl, ?_⟩
    have hbw := bl_then HWW.out HI.out
    exact ⟨hw4.os.trans hbw.os, hw4.tape.trans hbw.tape, hw4.output.trans hbw.output, by have := hw4.size; have := hbw.size; simp; omega, fun k hk => (World.putObj_heap_other (by have := HWW.out.size; omega)).trans ((hw4.block k (by omega)).trans (hbw.block k hk))⟩
  case hstop =>
    intro pre W' hz h hD
    gi_wp2
    refine ⟨by simp, .inl ⟨_, _, rfl, run_takeDeferred hD, ?_⟩⟩
    have hbx := h.out.2.box
    refine ⟨_, results_cell_one rfl _ _ g2 (.bool true) rfl (cell_of_row _ g2 0 _ _ _ ((World.putObj_heap_other (by omega)).trans hbx)) (isAgg4 _), ?_, ?_⟩
    · cases hkl : kl with
      | nil => exact absurd hkl h.out.1
      | cons _ _ => rfl
    · exact ⟨h.out.2.os.trans HWW.out.os, h.out.2.tape.trans HWW.out.tape, h.out.2.output.trans HWW.out.output, by simpa using Nat.le_trans HWW.out.size h.out.2.size, fun k hk => (World.putObj_heap_other (by have := HWW.out.size; omega)).trans ((h.out.2.block k (Nat.lt_of_lt_of_le hk HWW.out.size) (by omega)).trans (HWW.out.block k hk))⟩
end Go.Proofs.Ytnclljamcfoolaa
