/- Walks of package meter: the checks. Walks of package meter: all truths of an ear without readings. Walks of package meter: the beats and the order of two tongues of an ear without readings. Walks of package meter: the verdict on truths, and the span of a number of truths. A drawn region whose last operation waits for all others: the region with a still last operation, then that operation. Walk of meter.span at the beats of two tongues. -/
import Derived.Test.YtnclljamcfoolaaHd1
import Derived.Test.YtnclljamcfoolaaHd2
import Derived.Deep.DeepCutAuto
namespace Go.Proofs.Ytnclljamcfoolaa
open Go.RowKit
set_option linter.unusedVariables false
set_option linter.unusedSimpArgs false

theorem in_calls (n lo hi : Int) (w : World) : Calls Try.prog 42 #[.int .i64 n, .int .i64 lo, .int .i64 hi] w fun e w' => e = .returned (.bool (inB n lo hi)) ∧ w = w' := by
  unfold inB
  go_enter Try.func42, Try.ntmps42
  go_wp2
  all_goals go_ret
  all_goals exact ⟨by simp [*] <;> omega, rfl⟩

set_option maxHeartbeats 1000000 in
theorem checkReading_calls (r : Rd) (n : Nat) (w : World) (hn : n ≤ 100) :
    Calls Try.prog 50 #[.agg #[.int .i64 r.kind, .int .i64 r.a, .int .i64 r.b, .int .i64 r.secs, .int .i64 r.shown.mn, .int .i64 r.shown.mx], .int .i64 n] w fun e w' => e = .returned (.int .i64 (readErr r n)) ∧ Below w.heap.size w w' := by
  go_enter Try.func50, Try.ntmps50
  go_wp2_with (go_at_call 42; (with_reducible refine (in_calls _ _ _ _).mono ?_); rintro e_ w1 ⟨rfl, rfl⟩)
  all_goals go_ret
  all_goals refine ⟨ret_int ?_, by (repeat (first | assumption | exact Below.refl _ _ | refine bl_alloc ?_ _ | refine bl_drew ?_ | refine bl_drewN ?_ _))⟩
  all_goals go_tidy
  all_goals unfold readErr
  all_goals simp_all

set_option maxRecDepth 100000 in
set_option maxHeartbeats 1000000 in
theorem meterCheck_calls (e : Ear) (A1 A2 : Option Addr) (c1 c2 : Nat) (w : World) (h1 : Row Rg.cs 2 w A1 e.tones) (h2 : Row Rd.cs 6 w A2 e.reads) (hm1 : e.tones.length ≤ 1000000000000000) (hm2 : e.reads.length ≤ 1000000000000000) :
    Calls Try.prog 49 #[.agg #[.int .i64 e.slack, .slice A1 e.tones.length c1, .slice A2 e.reads.length c2]] w fun ed w' => ed = .returned (.int .i64 (earErr e)) ∧ Below w.heap.size w w' := by
  go_enter Try.func49, Try.ntmps49
  go_upto_block 0 with (fail)
  generalize hW : w.alloc _ = W
  generalize h1_ : w.heap.size = g1
  obtain ⟨hB0_, Hg1, kg1, fg1, lg1, bg1⟩ := gen1 w _ _ hW h1_
  clear hW h1_
  have H0W := Lib.hid hB0_
  clear hB0_
  have HHg1 := Lib.hid Hg1
  clear Hg1
  go_wp2_with (go_at_call 42; (with_reducible refine (in_calls _ _ _ _).mono ?_); rintro e_ w1 ⟨rfl, rfl⟩)
  · (go_ret; refine ⟨ret_int ?_, by (repeat (first | exact bl_then H0W.out HB.out | exact H0W.out | exact HB.out | exact Below.refl _ _ | refine bl_set ?_ (by assumption) _ | refine bl_alloc ?_ _ | refine bl_drew ?_ | refine bl_drewN ?_ _))⟩; go_tidy; unfold earErr; simp_all; try omega)
  · (go_ret; refine ⟨ret_int ?_, by (repeat (first | exact bl_then H0W.out HB.out | exact H0W.out | exact HB.out | exact Below.refl _ _ | refine bl_set ?_ (by assumption) _ | refine bl_alloc ?_ _ | refine bl_drew ?_ | refine bl_drewN ?_ _))⟩; go_tidy; unfold earErr; simp_all; try omega)
  · (go_ret; refine ⟨ret_int ?_, by (repeat (first | exact bl_then H0W.out HB.out | exact H0W.out | exact HB.out | exact Below.refl _ _ | refine bl_set ?_ (by assumption) _ | refine bl_alloc ?_ _ | refine bl_drew ?_ | refine bl_drewN ?_ _))⟩; go_tidy; unfold earErr; simp_all; try omega)
  have hA := Lib.hid (show (inB e.slack 0 3 = true) ∧ e.tones.length ≠ 0 ∧ e.tones.length ≤ 3 by go_tidy; simp_all; try omega)
  rename (!inB e.slack 0 3) = false => t1
  rename ((e.tones.length : Int) == 0) = false => t2
  clear t1 t2
  have h1' := Lib.hid (h1.below H0W.out)
  have h2' := Lib.hid (h2.below H0W.out)
  clear h1 h2
  go_loopw [26] (fun i wr => ∃ k : Nat, k ≤ e.tones.length ∧ i = .int .i64 k ∧ Below W.heap.size W wr ∧ firstErr toneErr e.tones = firstErr toneErr (e.tones.drop k))
    (fun i _ => e.tones.length - (intOf i).toNat)
  case atStart => exact ⟨0, Nat.zero_le _, rfl, Below.refl _ _, rfl⟩
  case round =>
    obtain ⟨k, hk, rfl, hb, hf⟩ := hrel
    have HF := Lib.hid hf
    have HB := Lib.hid hb
    clear hf hb
    have hq := CB.of HB.out
    by_cases hlt : k < e.tones.length
    · obtain ⟨b, o, rfl, hlb, hc0, hc1'⟩ := (h1'.out.below HB.out).rg k hlt
      have hfe := Lib.hid (firstErr_at toneErr e.tones k hlt)
      go_wp2_with (go_at_call 42; (with_reducible refine (in_calls _ _ _ _).mono ?_); rintro e_ w1 ⟨rfl, rfl⟩)
      all_goals first
        | (go_ret; refine ⟨ret_int (earErr_tone hA.out (firstErr_is (hk := hlt) HF.out ?_ (by decide)) (by decide)).symm, by (repeat (first | exact bl_then H0W.out HB.out | exact H0W.out | exact HB.out | exact Below.refl _ _ | refine bl_set ?_ (by assumption) _ | refine bl_alloc ?_ _ | refine bl_drew ?_ | refine bl_drewN ?_ _))⟩; go_tidy; unfold toneErr; simp only [inB_true, inB_false, Bool.not_eq_true', Bool.not_eq_false', wrap64] at *; (repeat' split) <;> omega)
        | (go_roundw
           (case rel => exact ⟨k + 1, hlt, by go_num, by (repeat (with_reducible first | exact HB.out | apply bl_alloc2 | apply bl_drew2 | apply bl_drewN2)), firstErr_next (hk := hlt) HF.out (by go_tidy; unfold toneErr; simp only [inB_true, inB_false, Bool.not_eq_true', Bool.not_eq_false', wrap64] at *; (repeat' split) <;> omega)⟩)
           (case measure => simp [intOf]; omega))
    · have hf0 := Lib.hid (firstErr_end HF.out (Nat.not_lt.1 hlt))
      go_wp2_with fail
      · go_ret
        exact ⟨ret_int (earErr_many hA.out hf0.out (by assumption)).symm, by (repeat (first | exact bl_then H0W.out HB.out | exact H0W.out | exact HB.out | exact Below.refl _ _ | refine bl_set ?_ (by assumption) _ | refine bl_alloc ?_ _ | refine bl_drew ?_ | refine bl_drewN ?_ _))⟩
      have h6 : (e.reads.length : Int) ≤ 6 := by assumption
      obtain ⟨W1, rfl⟩ : ∃ W1 : World, W1 = wr := ⟨_, rfl⟩
      go_loopw [60] (fun i wr => ∃ k : Nat, k ≤ e.reads.length ∧ i = .int .i64 k ∧ Below W.heap.size W wr ∧ firstErr (fun r => readErr r e.tones.length) e.reads = firstErr (fun r => readErr r e.tones.length) (e.reads.drop k))
        (fun i _ => e.reads.length - (intOf i).toNat)
      case atStart => exact ⟨0, Nat.zero_le _, rfl, HB.out, rfl⟩
      case round =>
        obtain ⟨k, hk, rfl, hb, hf⟩ := hrel
        have HF := Lib.hid hf
        clear HB hq
        have HB := Lib.hid hb
        clear hf hb
        have hq := CB.of HB.out
        by_cases hlt : k < e.reads.length
        · obtain ⟨b, o, rfl, hlb, hc0, hc1', hc2', hc3, hc4, hc5⟩ := (h2'.out.below HB.out).rd k hlt
          go_wp2_with (go_at_call 50; (with_reducible refine (checkReading_calls (e.reads[k]) _ _ (by omega)).mono ?_); rintro e_ w1 ⟨rfl, hb_⟩; have HB_ := Lib.hid (bl_then2 (by (repeat (with_reducible first | exact HB.out | apply bl_alloc2 | apply bl_drew2 | apply bl_drewN2))) hb_); clear HB hb_; (try clear hq); have HB := HB_; clear HB_; have hq := CB.of HB.out)
          · go_ret
            exact ⟨ret_int (earErr_reads hA.out hf0.out h6 (firstErr_is (hk := hlt) HF.out rfl (by simpa using (show (readErr e.reads[k] e.tones.length != 0) = true by assumption)))).symm, by (repeat (first | exact bl_then H0W.out HB.out | exact H0W.out | exact HB.out | exact Below.refl _ _ | refine bl_set ?_ (by assumption) _ | refine bl_alloc ?_ _ | refine bl_drew ?_ | refine bl_drewN ?_ _))⟩
          · go_roundw
            case rel => exact ⟨k + 1, hlt, by go_num, HB.out, firstErr_next (hk := hlt) HF.out (by simpa using (show (readErr e.reads[k] e.tones.length != 0) = false by assumption))⟩
            case measure => simp [intOf]; omega
        · go_wp2_with fail
          go_ret
          exact ⟨ret_int (earErr_reads hA.out hf0.out h6 (firstErr_end HF.out (Nat.not_lt.1 hlt))).symm, by (repeat (first | exact bl_then H0W.out HB.out | exact H0W.out | exact HB.out | exact Below.refl _ _ | refine bl_set ?_ (by assumption) _ | refine bl_alloc ?_ _ | refine bl_drew ?_ | refine bl_drewN ?_ _))⟩

end Go.Proofs.Ytnclljamcfoolaa
namespace Go.Proofs.Ytnclljamcfoolaa
open Go.RowKit Go.Shelf
set_option linter.unusedVariables false
set_option linter.unusedSimpArgs false

theorem earErr_zero {e : Ear} (h : earErr e = 0) : 1 ≤ e.tones.length ∧ e.tones.length ≤ 3 ∧ ∀ x ∈ e.tones, 1 ≤ x.mn ∧ x.mn ≤ 100000 ∧ 1 ≤ x.mx ∧ x.mx ≤ 100000 ∧ x.mn ≤ x.mx ∧ x.mx - x.mn ≤ 20 := by
  unfold earErr at h
  split at h
  · cases h
  split at h
  · cases h
  split at h
  · cases h
  split at h
  · next h1 => exact absurd h h1
  next _ h2 h3 h4 =>
  refine ⟨by omega, by omega, fun x hx => ?_⟩
  have ht := (firstErr_zero _ _).1 (Decidable.not_not.1 h4) x hx
  unfold toneErr at ht
  (repeat' split at ht) <;> simp_all [inB_true] <;> omega
theorem upto_len (x : Rg) (h : x.mx - x.mn ≤ 20) : (upto x).length ≤ 21 := by simp [upto]; omega
theorem flatMap_len {α β : Type} (l : List α) (f : α → List β) (k : Nat) (h : ∀ x ∈ l, (f x).length ≤ k) : (l.flatMap f).length ≤ l.length * k := by
  induction l with
  | nil => simp
  | cons x l ih =>
    have h1 := h x (by simp)
    have h2 := ih (fun y hy => h y (by simp [hy]))
    simp only [List.flatMap_cons, List.length_append, List.length_cons, Nat.succ_mul]
    omega
theorem truthsFrom_len (ok : T3 → Bool) (l : List Rg) : ∀ (i : Nat) (t : T3), (∀ x ∈ l, x.mx - x.mn ≤ 20) → (truthsFrom ok l i t).length ≤ 21 ^ l.length := by
  induction l with
  | nil => intro i t _; simp only [truthsFrom]; split <;> simp
  | cons x l ih =>
    intro i t h
    have h1 := upto_len x (h x (by simp))
    have h2 := flatMap_len (upto x) (fun n => truthsFrom ok l (i + 1) (t.set i n)) (21 ^ l.length) (fun n _ => ih _ _ (fun y hy => h y (by simp [hy])))
    simp only [truthsFrom, List.length_cons, Nat.pow_succ]
    have h3 : (upto x).length * 21 ^ l.length ≤ 21 * 21 ^ l.length := Nat.mul_le_mul_right _ h1
    have h4 : 21 ^ l.length * 21 = 21 * 21 ^ l.length := Nat.mul_comm _ _
    omega
theorem allTruths_len (ok : T3 → Bool) {e : Ear} (h : earErr e = 0) : (allTruths ok e).length ≤ 9261 := by
  obtain ⟨h1, h2, h3⟩ := earErr_zero h
  have := truthsFrom_len ok e.tones 0 ⟨0, 0, 0⟩ (fun x hx => (h3 x hx).2.2.2.2.2)
  have h4 : 21 ^ e.tones.length ≤ 21 ^ 3 := Nat.pow_le_pow_right (by omega) h2
  unfold allTruths; omega

set_option maxRecDepth 100000 in
set_option maxHeartbeats 1000000 in
theorem truths_calls (e : Ear) (b o c1 : Nat) (A2 : Option Addr) (c2 : Nat) (w : World) (h1 : Row Rg.cs 2 w (some ⟨b, o, none⟩) e.tones) (hb : b < w.heap.size) :
    Calls Try.prog 82 #[.agg #[.int .i64 e.slack, .slice (some ⟨b, o, none⟩) e.tones.length c1, .slice A2 0 c2]] w fun ed w' => ∃ be bl, ed = .returned (.func (.func 104) #[] #[.pointer (some ⟨be, 0, none⟩), .pointer (some ⟨bl, 0, none⟩)]) ∧ Fw e c1 A2 0 c2 be bl b o w' ∧ Below w.heap.size w w' := by
  go_enter Try.func82, Try.ntmps82
  go_upto_region 2 with (fail)
  generalize hW : (w.alloc _).alloc _ = W
  generalize h2_ : w.heap.size + 1 = g2
  generalize h1_ : w.heap.size = g1
  obtain ⟨hB0_, Hg1, Hg2, kg1, kg2, fg1, fg2, lg1, lg2, bg1, bg2, ng12, ng21⟩ := gen2 w _ _ _ _ hW h2_ h1_
  clear hW h1_ h2_
  have H0W := Lib.hid hB0_
  clear hB0_
  have HHg1 := Lib.hid Hg1
  have HHg2 := Lib.hid Hg2
  clear Hg1 Hg2
  go_wp2_with fail
  go_loopw [9] (fun i wr => i = .int .i64 0 ∧ wr = W) (fun _ _ => 0)
  case atStart => exact ⟨rfl, rfl⟩
  case round =>
    obtain ⟨rfl, rfl⟩ := hrel
    go_wp2
    go_ret
    have hR := h1.below H0W.out
    have hlt : b < wr.heap.size := Nat.lt_of_lt_of_le hb H0W.out.size
    refine ⟨g1, g2, rfl, ⟨kg1, kg2 0, fun i hi => ?_, lg1, lg2, hlt⟩, H0W.out⟩
    obtain ⟨b', o', hA, _, h3, h4⟩ := hR.rg i hi
    cases hA
    exact ⟨h3, h4⟩

theorem appendSeq_calls (e : Ear) (c1 : Nat) (A2 : Option Addr) (n2 c2 be bl b o : Nat) (he : earErr e = 0) (w : World) (hF : Fw e c1 A2 n2 c2 be bl b o w) :
    Calls Try.prog 109 #[.slice none 0 0, .func (.func 104) #[] #[.pointer (some ⟨be, 0, none⟩), .pointer (some ⟨bl, 0, none⟩)]] w fun ed w' => ∃ v, ed = .returned v ∧ w'.ownsRow w.heap.size 93 3 v (allTruths (fun _ => true) e).length (flat T3.cs (allTruths (fun _ => true) e)) ∧ Below w.heap.size w w' := by
  obtain ⟨h1, h2, h3⟩ := earErr_zero he
  have hl := allTruths_len (fun _ => true) he
  refine (callsIn_wide (n := 3)).1 ((appendSeq_in Fence.wide 3 trivial rfl (by omega) 104 _ trivial (enters_of Try.func104 (by kernel_rfl) rfl) _ (allTruths (fun _ => true) e).length (by unfold maxLen; omega) (by omega) w
    (truths_seq Fence.wide 2 trivial trivial rfl rfl e c1 A2 n2 c2 be bl b o h2 (fun x hx => ⟨(h3 x hx).1, (h3 x hx).2.1, (h3 x hx).2.2.1, (h3 x hx).2.2.2.1⟩) w hF)).mono ?_)
  rintro ed w' ⟨v, ss, rfl, rfl, hr, hb⟩
  exact ⟨v, rfl, hr, hb⟩

theorem collect_calls (e : Ear) (c1 : Nat) (A2 : Option Addr) (n2 c2 be bl b o : Nat) (he : earErr e = 0) (w : World) (hF : Fw e c1 A2 n2 c2 be bl b o w) :
    Calls Try.prog 95 #[.func (.func 104) #[] #[.pointer (some ⟨be, 0, none⟩), .pointer (some ⟨bl, 0, none⟩)]] w fun ed w' => ∃ v, ed = .returned v ∧ w'.ownsRow w.heap.size 93 3 v (allTruths (fun _ => true) e).length (flat T3.cs (allTruths (fun _ => true) e)) ∧ Below w.heap.size w w' := by
  go_enter Try.func95, Try.ntmps95
  go_wp2_with (go_at_call 109; refine (appendSeq_calls e c1 A2 n2 c2 be bl b o he _ hF).mono ?_; rintro e_ w1 ⟨v, rfl, hr, hb⟩; have HR := Lib.hid hr; clear hr)
  go_ret
  exact ⟨v, rfl, HR.out, hb⟩

end Go.Proofs.Ytnclljamcfoolaa
namespace Go.Proofs.Ytnclljamcfoolaa
open Go.RowKit
set_option linter.unusedVariables false
set_option linter.unusedSimpArgs false

/-- the tone of tongue i -/
def T3.get (t : T3) (i : Int) : Int := if i = 0 then t.a else if i = 1 then t.b else t.c
def T3.Ok (t : T3) : Prop := (0 ≤ t.a ∧ t.a ≤ 100000) ∧ (0 ≤ t.b ∧ t.b ≤ 100000) ∧ (0 ≤ t.c ∧ t.c ≤ 100000)
theorem T3.Ok.get {t : T3} (h : t.Ok) (i : Int) : 0 ≤ t.get i ∧ t.get i ≤ 100000 := by
  unfold T3.get; (repeat' split) <;> first | exact h.1 | exact h.2.1 | exact h.2.2
def T3.apart (t : T3) (a b : Int) : Int := max (t.get a - t.get b) (t.get b - t.get a)

set_option maxHeartbeats 1000000 in
theorem apart01 (t : T3) (ht : t.Ok) (w : World) :
    Calls Try.prog 46 #[t.v, .int .i64 0, .int .i64 1] w fun e w' => e = .returned (.int .i64 (t.apart 0 1)) ∧ Below w.heap.size w w' := by
  obtain ⟨h1, h2, h3⟩ := ht
  go_enter Try.func46, Try.ntmps46
  go_wp2_with fail
  go_quiet (fail)
  go_wp2
  all_goals (go_ret; refine ⟨ret_int ?_, by (repeat (first | assumption | exact Below.refl _ _ | refine bl_alloc ?_ _ | refine bl_drew ?_ | refine bl_drewN ?_ _))⟩; go_tidy; simp [T3.apart, T3.get]; omega)

theorem apart_bd {t : T3} (ht : t.Ok) (a b : Int) : 0 ≤ t.apart a b ∧ t.apart a b ≤ 100000 := by
  have h1 := ht.get a
  have h2 := ht.get b
  unfold T3.apart; omega

set_option maxHeartbeats 1000000 in
theorem beats45 (t : T3) (ht : t.Ok) (B1 B2 B3 : Nat) (s : Int) (hs : 1 ≤ s ∧ s ≤ 20) (w : World) (h1 : w.cell? ⟨B1, 0, none⟩ = some (.int .i64 0)) (h2 : w.cell? ⟨B2, 0, none⟩ = some (.int .i64 1)) (h3 : w.cell? ⟨B3, 0, none⟩ = some (.int .i64 s)) :
    Calls Try.prog 45 #[t.v, .pointer (some ⟨B1, 0, none⟩), .pointer (some ⟨B2, 0, none⟩), .pointer (some ⟨B3, 0, none⟩)] w fun e w' => e = .returned (.int .i64 (t.apart 0 1 * s / 100)) ∧ Below w.heap.size w w' := by
  have hb := apart_bd ht 0 1
  have hm : 0 ≤ t.apart 0 1 * s ∧ t.apart 0 1 * s ≤ 2000000 := by
    constructor
    · exact Int.mul_nonneg hb.1 (by omega)
    · have := Int.mul_le_mul hb.2 hs.2 (by omega) (by omega); omega
  have hw : IntKind.i64.wrap (t.apart 0 1 * s) = t.apart 0 1 * s := IntWalk.i64_in _ (by omega)
  have l1 := World.block_lt_of_cell? w _ h1
  have l2 := World.block_lt_of_cell? w _ h2
  have l3 := World.block_lt_of_cell? w _ h3
  go_enter Try.func45, Try.ntmps45
  go_upto_region 1 with (fail)
  generalize hW : w.alloc _ = W
  generalize h1_ : w.heap.size = g1
  obtain ⟨hB0_, Hg1, kg1, fg1, lg1, bg1⟩ := gen1 w _ _ hW h1_
  clear hW h1_
  have H0W := Lib.hid hB0_
  clear hB0_
  have HHg1 := Lib.hid Hg1
  clear Hg1
  have HB := Lib.hid (Below.refl W.heap.size W)
  have hq0 := CB.of H0W.out
  have e1 := (hq0.1 _ 0 l1).trans h1
  have e2 := (hq0.1 _ 0 l2).trans h2
  have e3 := (hq0.1 _ 0 l3).trans h3
  have m1 := World.block_lt_of_cell? W _ e1
  have m2 := World.block_lt_of_cell? W _ e2
  have m3 := World.block_lt_of_cell? W _ e3
  clear hq0 h1 h2 h3 l1 l2 l3
  go_region_held3 (fun w' => (∀ j, w'.cell? ⟨g1, j, none⟩ = #[Value.int IntKind.i64 t.a, Value.int IntKind.i64 t.b, Value.int IntKind.i64 t.c][j]?) ∧ w'.cell? ⟨B1, 0, none⟩ = some (.int .i64 0) ∧ w'.cell? ⟨B2, 0, none⟩ = some (.int .i64 1) ∧ w'.cell? ⟨B3, 0, none⟩ = some (.int .i64 s))
    (first | exact ⟨fun j => (hq.1 _ j lg1).trans (kg1 j), (hq.1 _ _ m1).trans e1, (hq.1 _ _ m2).trans e2, (hq.1 _ _ m3).trans e3⟩ | exact ⟨fun j => ((CB.of (bl_drew HB.out)).1 _ j lg1).trans (kg1 j), ((CB.of (bl_drew HB.out)).1 _ _ m1).trans e1, ((CB.of (bl_drew HB.out)).1 _ _ m2).trans e2, ((CB.of (bl_drew HB.out)).1 _ _ m3).trans e3⟩ | exact ⟨fun j => ((CB.of (bl_alloc HB.out _)).1 _ j lg1).trans (kg1 j), ((CB.of (bl_alloc HB.out _)).1 _ _ m1).trans e1, ((CB.of (bl_alloc HB.out _)).1 _ _ m2).trans e2, ((CB.of (bl_alloc HB.out _)).1 _ _ m3).trans e3⟩ | exact ⟨fun j => ((CB.of (bl_alloc (bl_alloc HB.out _) _)).1 _ j lg1).trans (kg1 j), ((CB.of (bl_alloc (bl_alloc HB.out _) _)).1 _ _ m1).trans e1, ((CB.of (bl_alloc (bl_alloc HB.out _) _)).1 _ _ m2).trans e2, ((CB.of (bl_alloc (bl_alloc HB.out _) _)).1 _ _ m3).trans e3⟩ | go_keep)
    (first | (go_at_call 46; (with_reducible refine (apart01 t ht _).mono ?_); rintro e_ w1 ⟨rfl, hb_⟩; have HB_ := Lib.hid (bl_then2 (by (repeat (with_reducible first | exact HB.out | apply bl_alloc2 | apply bl_drew2 | apply bl_drewN2))) hb_); clear HB hb_; (try clear hq); have HB := HB_; clear HB_; have hq := CB.of HB.out))
  go_wp2
  go_ret
  exact ⟨ret_int (by go_tidy; rw [Int.tdiv_eq_ediv_of_nonneg hm.1]; exact IntWalk.i64_in _ (by omega)), by (repeat (first | exact bl_then H0W.out HB.out | exact H0W.out | exact HB.out | exact Below.refl _ _ | refine bl_set ?_ (by assumption) _ | refine bl_alloc ?_ _ | refine bl_drew ?_ | refine bl_drewN ?_ _))⟩

set_option maxHeartbeats 1000000 in
theorem higher48 (t : T3) (B1 B2 : Nat) (w : World) (h1 : w.cell? ⟨B1, 0, none⟩ = some (.int .i64 1)) (h2 : w.cell? ⟨B2, 0, none⟩ = some (.int .i64 0)) :
    Calls Try.prog 48 #[t.v, .pointer (some ⟨B1, 0, none⟩), .pointer (some ⟨B2, 0, none⟩)] w fun e w' => e = .returned (.bool (decide (t.a < t.b))) ∧ Below w.heap.size w w' := by
  have l1 := World.block_lt_of_cell? w _ h1
  have l2 := World.block_lt_of_cell? w _ h2
  go_enter Try.func48, Try.ntmps48
  go_upto_region 1 with (fail)
  generalize hW : w.alloc _ = W
  generalize h1_ : w.heap.size = g1
  obtain ⟨hB0_, Hg1, kg1, fg1, lg1, bg1⟩ := gen1 w _ _ hW h1_
  clear hW h1_
  have H0W := Lib.hid hB0_
  clear hB0_
  have HHg1 := Lib.hid Hg1
  clear Hg1
  have hq0 := CB.of H0W.out
  have e1 := (hq0.1 _ 0 l1).trans h1
  have e2 := (hq0.1 _ 0 l2).trans h2
  clear hq0 h1 h2 l1 l2
  go_quiet (fail)
  go_wp2
  go_ret
  exact ⟨rfl, by (repeat (first | exact bl_then H0W.out HB.out | exact H0W.out | exact HB.out | exact Below.refl _ _ | refine bl_set ?_ (by assumption) _ | refine bl_alloc ?_ _ | refine bl_drew ?_ | refine bl_drewN ?_ _))⟩

def twoErr (n a b : Int) : Int := if inB a 0 (n - 1) = false then 3 else if inB b 0 (n - 1) = false then 3 else if a = b then 4 else 0
theorem two_calls (s : Int) (A1 : Option Addr) (n c1 : Nat) (v : Value) (a b : Int) (hn : n ≤ 1000000) (w : World) (hv : ∃ A m c, v = .slice A m c) :
    Calls Try.prog 41 #[.agg #[.int .i64 s, .slice A1 n c1, v], .int .i64 a, .int .i64 b] w fun e w' => e = .returned (.int .i64 (twoErr n a b)) ∧ Below w.heap.size w w' := by
  obtain ⟨A, m, c, rfl⟩ := hv
  go_enter Try.func41, Try.ntmps41
  go_wp2_with (go_at_call 42; (with_reducible refine (in_calls _ _ _ _).mono ?_); rintro e_ w1 ⟨rfl, rfl⟩)
  all_goals (go_ret; refine ⟨ret_int ?_, by (repeat (first | assumption | exact Below.refl _ _ | refine bl_alloc ?_ _ | refine bl_drew ?_ | refine bl_drewN ?_ _))⟩; go_tidy; unfold twoErr; simp_all)

theorem allTruths_pos {e : Ear} (h : earErr e = 0) : 0 < (allTruths (fun _ => true) e).length := by
  obtain ⟨h1, h2, h3⟩ := earErr_zero h
  have key : ∀ (l : List Rg) (i : Nat) (t : T3), (∀ x ∈ l, x.mn ≤ x.mx) → 0 < (truthsFrom (fun _ => true) l i t).length := by
    intro l
    induction l with
    | nil => intro i t _; simp [truthsFrom]
    | cons x l ih =>
      intro i t hx
      have hx0 := hx x (by simp)
      have h0 := ih (i + 1) (t.set i x.mn) (fun y hy => hx y (by simp [hy]))
      obtain ⟨k, hk⟩ : ∃ k, (x.mx - x.mn + 1).toNat = k + 1 := ⟨(x.mx - x.mn).toNat, by omega⟩
      simp only [truthsFrom, upto, hk, List.range_succ_eq_map, List.map_cons, List.flatMap_cons, List.length_append]
      simp only [Int.natCast_zero, Int.add_zero]
      omega
  exact key _ _ _ (fun x hx => (h3 x hx).2.2.2.2.1)

theorem row_slice {w : World} {base e size n : Nat} {v : Value} {xs : List Value} (h : w.ownsRow base e size v n xs) (hn : 0 < n) : ∃ g cap, v = .slice (some ⟨g, 0, none⟩) n cap := by
  rcases h.2 with ⟨_, h2⟩ | ⟨g, cap, _, h3, _⟩
  · omega
  · exact ⟨g, cap, h3⟩
theorem size41 : (Try.prog.info? 41).map (·.size) = some 3 := by kernel_rfl

set_option maxRecDepth 100000 in
set_option maxHeartbeats 1000000 in
theorem known_calls (e : Ear) (b o c1 : Nat) (A2 : Option Addr) (c2 : Nat) (he : earErr e = 0) (hr : e.reads = []) (w : World) (h1 : Row Rg.cs 2 w (some ⟨b, o, none⟩) e.tones) (hb : b < w.heap.size) :
    Calls Try.prog 71 #[.agg #[.int .i64 e.slack, .slice (some ⟨b, o, none⟩) e.tones.length c1, .slice A2 0 c2]] w fun ed w' => ∃ v, ed = .returned (.tuple #[v, .int .i64 0]) ∧ w'.ownsRow w.heap.size 93 3 v (allTruths (fun _ => true) e).length (flat T3.cs (allTruths (fun _ => true) e)) ∧ Below w.heap.size w w' := by
  have hC := Lib.hid (meterCheck_calls e (some ⟨b, o, none⟩) A2 c1 c2)
  rw [hr, he] at hC
  have hz := earErr_zero he
  have hpos := allTruths_pos he
  go_enter Try.func71, Try.ntmps71
  go_upto_region 1 with (fail)
  generalize hW : w.alloc _ = W
  generalize h1_ : w.heap.size = g1
  obtain ⟨hB0_, Hg1, kg1, fg1, lg1, bg1⟩ := gen1 w _ _ hW h1_
  clear hW h1_
  have H0W := Lib.hid hB0_
  clear hB0_
  have HHg1 := Lib.hid Hg1
  clear Hg1
  have HB := Lib.hid (Below.refl W.heap.size W)
  have HR := Lib.hid (h1.below H0W.out)
  have hbW : b < W.heap.size := Nat.lt_of_lt_of_le hb H0W.out.size
  clear h1
  go_wp2_with (first
    | ((with_reducible refine ld_gate 41 rfl ?_); refine wpList_load_row rfl 41 _ rfl g1 rfl 41 _ (0, 0) _ ((HB.out.block _ lg1).trans HHg1.out) Try.underlying41 rfl size41 ?_)
    | (go_at_call 49; refine (hC.out _ (HR.out.below HB.out) (.inl rfl) (by omega) (by simp)).mono ?_; rintro e_ w1 ⟨rfl, hb_⟩; have HB_ := Lib.hid (bl_then2 (by (repeat (with_reducible first | exact HB.out | apply bl_alloc2 | apply bl_drew2 | apply bl_drewN2))) hb_); clear HB hb_; (try clear hq); have HB := HB_; clear HB_; have hq := CB.of HB.out)
    | (go_at_call 82; refine (truths_calls e b o c1 A2 c2 _ (HR.out.below HB.out) (Nat.lt_of_lt_of_le hbW HB.out.size)).mono ?_; rintro e_ w1 ⟨be, bl, rfl, hF, hb_⟩; have HF := Lib.hid hF; clear hF; have HB_ := Lib.hid (bl_then2 (by (repeat (with_reducible first | exact HB.out | apply bl_alloc2 | apply bl_drew2 | apply bl_drewN2))) hb_); clear HB hb_; (try clear hq); have HB := HB_; clear HB_; have hq := CB.of HB.out)
    | (go_at_call 95; refine (collect_calls e c1 A2 0 c2 _ _ b o he _ HF.out).mono ?_; rintro e_ w1 ⟨v, rfl, hr, hb_⟩; obtain ⟨gq, capq, hvq⟩ := row_slice hr hpos; subst hvq; have HO := Lib.hid hr; have hsz := HB.out.size; clear hr; have HB_ := Lib.hid (bl_then2 (by (repeat (with_reducible first | exact HB.out | apply bl_alloc2 | apply bl_drew2 | apply bl_drewN2))) hb_); clear HB hb_; (try clear hq); have HB := HB_; clear HB_; have hq := CB.of HB.out))
  go_ret2
  exact ⟨_, rfl, own_weaken HO.out (Nat.le_trans H0W.out.size hsz), by (repeat (first | exact bl_then H0W.out HB.out | exact H0W.out | exact HB.out | exact Below.refl _ _ | refine bl_set ?_ (by assumption) _ | refine bl_alloc ?_ _ | refine bl_drew ?_ | refine bl_drewN ?_ _))⟩

set_option maxRecDepth 100000 in
set_option maxHeartbeats 1000000 in
theorem ask_calls (e : Ear) (b o c1 : Nat) (A2 : Option Addr) (c2 : Nat) (he : earErr e = 0) (hr : e.reads = []) (w : World) (h1 : Row Rg.cs 2 w (some ⟨b, o, none⟩) e.tones) (hb : b < w.heap.size) :
    Calls Try.prog 43 #[.agg #[.int .i64 e.slack, .slice (some ⟨b, o, none⟩) e.tones.length c1, .slice A2 0 c2], .int .i64 0] w fun ed w' => ∃ v, ed = .returned (.tuple #[v, .int .i64 0]) ∧ w'.ownsRow w.heap.size 93 3 v (allTruths (fun _ => true) e).length (flat T3.cs (allTruths (fun _ => true) e)) ∧ Below w.heap.size w w' := by
  have hC := Lib.hid (meterCheck_calls e (some ⟨b, o, none⟩) A2 c1 c2)
  rw [hr, he] at hC
  have hz := earErr_zero he
  go_enter Try.func43, Try.ntmps43
  go_upto_region 1 with (fail)
  generalize hW : w.alloc _ = W
  generalize h1_ : w.heap.size = g1
  obtain ⟨hB0_, Hg1, kg1, fg1, lg1, bg1⟩ := gen1 w _ _ hW h1_
  clear hW h1_
  have H0W := Lib.hid hB0_
  clear hB0_
  have HHg1 := Lib.hid Hg1
  clear Hg1
  have HB := Lib.hid (Below.refl W.heap.size W)
  have HR := Lib.hid (h1.below H0W.out)
  have hbW : b < W.heap.size := Nat.lt_of_lt_of_le hb H0W.out.size
  clear h1
  go_wp2_with (first
    | ((with_reducible refine ld_gate 41 rfl ?_); refine wpList_load_row rfl 41 _ rfl g1 rfl 41 _ (0, 0) _ ((HB.out.block _ lg1).trans HHg1.out) Try.underlying41 rfl size41 ?_)
    | (go_at_call 49; refine (hC.out _ (HR.out.below HB.out) (.inl rfl) (by omega) (by simp)).mono ?_; rintro e_ w1 ⟨rfl, hb_⟩; have HB_ := Lib.hid (bl_then2 (by (repeat (with_reducible first | exact HB.out | apply bl_alloc2 | apply bl_drew2 | apply bl_drewN2))) hb_); clear HB hb_; (try clear hq); have HB := HB_; clear HB_; have hq := CB.of HB.out)
    | (go_at_call 71; refine (known_calls e b o c1 A2 c2 he hr _ (HR.out.below HB.out) (Nat.lt_of_lt_of_le hbW HB.out.size)).mono ?_; rintro e_ w1 ⟨v, rfl, hr_, hb_⟩; have HO := Lib.hid hr_; have hsz := HB.out.size; clear hr_; have HB_ := Lib.hid (bl_then2 (by (repeat (with_reducible first | exact HB.out | apply bl_alloc2 | apply bl_drew2 | apply bl_drewN2))) hb_); clear HB hb_; (try clear hq); have HB := HB_; clear HB_; have hq := CB.of HB.out))
  go_ret2
  exact ⟨_, rfl, own_weaken HO.out (Nat.le_trans H0W.out.size hsz), by (repeat (first | exact bl_then H0W.out HB.out | exact H0W.out | exact HB.out | exact Below.refl _ _ | refine bl_set ?_ (by assumption) _ | refine bl_alloc ?_ _ | refine bl_drew ?_ | refine bl_drewN ?_ _))⟩

end Go.Proofs.Ytnclljamcfoolaa
namespace Go.Proofs.Ytnclljamcfoolaa
open Go.RowKit
set_option linter.unusedVariables false
set_option linter.unusedSimpArgs false

theorem flat_at {α : Type} (enc : α → List Value) (sz : Nat) (hsz : ∀ x, (enc x).length = sz) (l : List α) : ∀ (i j : Nat) (x : α), l[i]? = some x → j < sz → (flat enc l)[i * sz + j]? = (enc x)[j]? := by
  induction l with
  | nil => intro i j x h; simp at h
  | cons y l ih =>
    intro i j x h hj
    unfold flat
    simp only [List.map_cons, List.flatten_cons]
    cases i with
    | zero =>
      obtain rfl : y = x := by simpa using h
      rw [List.getElem?_append_left (by rw [hsz]; omega)]; simp
    | succ i =>
      rw [List.getElem?_append_right (by rw [hsz, Nat.succ_mul]; omega), hsz]
      have := ih i j x (by simpa using h) hj
      rw [show (i + 1) * sz + j - sz = i * sz + j by rw [Nat.succ_mul]; omega]
      exact this
theorem row_of_own {α : Type} {enc : α → List Value} {sz : Nat} (hsz : ∀ x, (enc x).length = sz) {w : World} {base e g n cap : Nat} {l : List α} (h : w.ownsRow base e sz (.slice (some ⟨g, 0, none⟩) n cap) n (flat enc l)) : Row enc sz w (some ⟨g, 0, none⟩) l := by
  refine .inr ⟨g, 0, rfl, fun i x hx j v hv => ?_⟩
  have hj : j < sz := by
    rw [← hsz x]
    exact (List.getElem?_eq_some_iff.1 hv).1
  have hf := flat_at enc sz hsz l i j x hx hj
  rw [hv] at hf
  have hlt : i * sz + j < n * sz := by
    have := (List.getElem?_eq_some_iff.1 hf).1
    rw [h.1] at this; exact this
  rw [Nat.zero_add, h.cellAt _ hlt]; exact hf
theorem Row.t3 {w : World} {A : Option Addr} {xs : List T3} (h : Row T3.cs 3 w A xs) (k : Nat) (hk : k < xs.length) : ∃ b o, A = some ⟨b, o, none⟩ ∧ b < w.heap.size ∧ w.cell? ⟨b, o + k * 3, none⟩ = some (.int .i64 xs[k].a) ∧ w.cell? ⟨b, o + k * 3 + 1, none⟩ = some (.int .i64 xs[k].b) ∧ w.cell? ⟨b, o + k * 3 + 2, none⟩ = some (.int .i64 xs[k].c) := by
  obtain ⟨b, o, hA, h⟩ := h.cell k hk
  exact ⟨b, o, hA, World.block_lt_of_cell? w _ (h 0 _ rfl), h 0 _ rfl, h 1 _ rfl, h 2 _ rfl⟩

def countP (p : T3 → Bool) (l : List T3) : Int := (l.countP p : Nat)
def verdictOf (so n : Int) : Int := if so = n then 1 else if so = 0 then 2 else 3

set_option maxRecDepth 100000 in
set_option maxHeartbeats 1000000 in
theorem verdict48 (l : List T3) (g0 cap B1 B2 : Nat) (hl : l.length ≤ 1000000) (w : World) (hR : Row T3.cs 3 w (some ⟨g0, 0, none⟩) l) (h1 : w.cell? ⟨B1, 0, none⟩ = some (.int .i64 1)) (h2 : w.cell? ⟨B2, 0, none⟩ = some (.int .i64 0)) :
    Calls Try.prog 47 #[.slice (some ⟨g0, 0, none⟩) l.length cap, .func (.func 48) #[] #[.pointer (some ⟨B1, 0, none⟩), .pointer (some ⟨B2, 0, none⟩)]] w fun e w' => e = .returned (.int .i64 (verdictOf (countP (fun t => decide (t.a < t.b)) l) l.length)) ∧ Below w.heap.size w w' := by
  have l1 := World.block_lt_of_cell? w _ h1
  have l2 := World.block_lt_of_cell? w _ h2
  have HR := Lib.hid hR
  have H1 := Lib.hid h1
  have H2 := Lib.hid h2
  clear hR h1 h2
  go_enter Try.func47, Try.ntmps47
  go_wp2_with fail
  go_loopw [5, 10] (fun s i wr => ∃ k : Nat, k ≤ l.length ∧ i = .int .i64 k ∧ s = .int .i64 (countP (fun t => decide (t.a < t.b)) (l.take k)) ∧ Below w.heap.size w wr)
    (fun _ i _ => l.length - (intOf i).toNat)
  case atStart => exact ⟨0, Nat.zero_le _, rfl, rfl, Below.refl _ _⟩
  case round =>
    obtain ⟨k, hk, rfl, rfl, hb⟩ := hrel
    have HB := Lib.hid hb
    clear hb
    have hq := CB.of HB.out
    have hcb : 0 ≤ countP (fun t => decide (t.a < t.b)) (l.take k) ∧ countP (fun t => decide (t.a < t.b)) (l.take k) ≤ 1000000 := by
      have := List.countP_le_length (p := fun t : T3 => decide (t.a < t.b)) (l := l.take k)
      have h2 := List.length_take_le k l
      unfold countP; omega
    by_cases hlt : k < l.length
    · obtain ⟨b, o, hA, hlb, c0, c1, c2⟩ := HR.out.t3 k hlt
      obtain ⟨rfl, rfl⟩ : g0 = b ∧ 0 = o := by simpa using hA
      clear hA
      have hlti : ((k : Int) < (l.length : Int)) := by omega
      simp only [Nat.zero_add] at c0 c1 c2
      have hs := Lib.hid (show countP (fun t => decide (t.a < t.b)) (l.take (k + 1)) = countP (fun t => decide (t.a < t.b)) (l.take k) + if decide (l[k].a < l[k].b) then 1 else 0 by
        unfold countP; rw [List.take_succ_eq_append_getElem hlt, List.countP_append]; by_cases h : l[k].a < l[k].b <;> simp [h, List.countP_cons])
      go_wp2_with (go_at_call 48; refine (higher48 (l[k]) B1 B2 _ (((CB.of (bl_alloc HB.out _)).1 _ 0 l1).trans H1.out) (((CB.of (bl_alloc HB.out _)).1 _ 0 l2).trans H2.out)).mono ?_; rintro e_ w1 ⟨rfl, hb_⟩; have HB_ := Lib.hid (bl_then2 (by (repeat (with_reducible first | exact HB.out | apply bl_alloc2 | apply bl_drew2 | apply bl_drewN2))) hb_); clear HB hb_; (try clear hq); have HB := HB_; clear HB_; have hq := CB.of HB.out)
      all_goals (have hs' := hs.out; refine ⟨⟨k + 1, by omega, by simp, ?_, HB.out⟩, ?_⟩ <;> first | (rw [hs']; simp_all; done) | (rw [hs']; simp_all; omega) | (simp [intOf]; omega))
    · have hkl : k = l.length := by omega
      subst hkl
      rw [List.take_length] at hcb ⊢
      go_wp2_with fail
      all_goals (go_ret; refine ⟨ret_int ?_, HB.out⟩; go_tidy; unfold verdictOf; simp_all)

def tbOf (s : Int) (t : T3) : Int := t.apart 0 1 * s / 100
def mnOf (f : T3 → Int) (l : List T3) (d : Int) : Int := l.foldl (fun m t => min m (f t)) d
def mxOf (f : T3 → Int) (l : List T3) (d : Int) : Int := l.foldl (fun m t => max m (f t)) d

end Go.Proofs.Ytnclljamcfoolaa
namespace Go.Proofs.Ytnclljamcfoolaa
open Go.RowKit
set_option linter.unusedVariables false
set_option linter.unusedSimpArgs false

section
variable {P : Program} {md : Region.Mode} {ops ops' : Array Oper} {Q : Exit → Act → World → Prop} {S : World → Prop}
/-- the post of the region without its last operation o -/
def Peeled (P : Program) (o : Oper) (Q : Exit → Act → World → Prop) : Exit → Act → World → Prop
  | .normal, a, w => o.wp P a w (fun a w => Q .normal a w) Q
  | e, a, w => Q e a w
theorem Peeled.out {o : Oper} : LetsOut (Peeled P o Q) → LetsOut Q := fun ⟨a, w, h⟩ => ⟨a, w, h⟩
theorem wp_peeled {o x : Oper} {a : Act} {w : World} {K K' : Act → World → Prop} (h : ∀ a w, K a w → K' a w) (hh : x.wp P a w K (Peeled P o Q)) : x.wp P a w K' Q := by
  unfold Oper.wp at *
  generalize (execOp a.eval x).run P w = r at *
  cases r with
  | ok n w' =>
    cases n <;> simp only [Oper.upon] at hh ⊢ <;>
      first
        | exact h _ _ hh
        | exact Calls.mono hh (fun e w'' he => by cases e <;> first | exact h _ _ he | exact he | exact Peeled.out he)
        | exact Rows.mono hh (fun _ _ he => h _ _ he)
  | halt x w' => cases x <;> simp only [Oper.upon] at hh ⊢ <;> first | exact hh | exact Peeled.out hh
theorem ready_same (h : ∀ i : Nat, (ops'[i]?).map Oper.after = (ops[i]?).map Oper.after) (hs : ops'.size = ops.size) (l : Array Bool) : Region.ready md ops' l = Region.ready md ops l := by
  unfold Region.ready
  rw [hs]
  refine List.filter_congr fun i _ => ?_
  have := h i
  cases h1 : ops'[i]? <;> cases h2 : ops[i]? <;> simp_all
theorem ready_some {n : Nat} (hsz : ops.size = n + 1) (hwf : ∀ (i : Nat) (x : Oper), ops[i]? = some x → ∀ e ∈ x.after, Region.binds md e = true → e.on < i) {l : Array Bool} (hl : l.size = n + 1) (hn : l.getD n true = false) : Region.ready md ops l ≠ [] := by
  intro h0
  have key : ∀ i, i < n + 1 → l.getD i false = true := by
    intro i
    induction i using Nat.strongRecOn with
    | _ i ih =>
      intro hi
      have hx : ∃ x, ops[i]? = some x := ⟨ops[i]'(by omega), Array.getElem?_eq_getElem (by omega)⟩
      obtain ⟨x, hx⟩ := hx
      have hr : i ∉ Region.ready md ops l := by rw [h0]; simp
      rw [mem_ready] at hr
      have hli : l.getD i true ≠ false := fun h => hr ⟨h, x, hx, fun e he hb => ih _ (hwf i x hx e he hb) (by have := hwf i x hx e he hb; omega)⟩
      have hlt : i < l.size := by omega
      simp [Array.getD, hlt] at hli ⊢
      exact hli
  have hlt : n < l.size := by omega
  have := key n (by omega)
  simp [Array.getD, hlt] at this hn
  rw [this] at hn; cases hn
theorem ready_none {n : Nat} {o : Oper} (hsz : ops.size = n + 1) (ho : ops[n]? = some o) (hw : ∀ i, i < n → ∃ e ∈ o.after, Region.binds md e = true ∧ e.on = i) {l : Array Bool} (hl : l.size = n + 1) (hn : n ∈ Region.ready md ops l) : Region.ready md ops (l.setIfInBounds n true) = [] := by
  rw [mem_ready] at hn
  obtain ⟨_, o2, ho2, h⟩ := hn
  obtain rfl : o = o2 := by rw [ho] at ho2; cases ho2; rfl
  refine List.eq_nil_iff_forall_not_mem.2 fun j hj => ?_
  rw [mem_ready] at hj
  obtain ⟨hj, x, hx, _⟩ := hj
  have hjn : j < n + 1 := by have := (Array.getElem?_eq_some_iff.1 hx).1; omega
  have hlt : j < l.size := by omega
  by_cases hjn' : j = n
  · subst hjn'; simp [hlt] at hj
  · rw [getD_set_ne true (Ne.symm hjn')] at hj
    obtain ⟨e, he, hb, rfl⟩ := hw j (by omega)
    have := h e he hb
    simp [Array.getD, hlt] at this hj
    rw [this] at hj; cases hj
theorem wpAny_peel {n : Nat} {o o' : Oper} (hsz : ops.size = n + 1) (hs : ops'.size = ops.size) (ho : ops[n]? = some o) (ho' : ops'[n]? = some o') (ha : ∀ i : Nat, (ops'[i]?).map Oper.after = (ops[i]?).map Oper.after) (hne : ∀ i : Nat, i ≠ n → ops'[i]? = ops[i]?)
    (hwf : ∀ (i : Nat) (x : Oper), ops[i]? = some x → ∀ e ∈ x.after, Region.binds md e = true → e.on < i) (hw : ∀ i, i < n → ∃ e ∈ o.after, Region.binds md e = true ∧ e.on = i) (hg : ∀ (i : Nat) (x : Oper), ops[i]? = some x → x.guard = none)
    (hno : ∀ (K : Act → World → Prop) (Q : Exit → Act → World → Prop) (a : Act) (w : World), wpOp P ops' Q n K a w → K a w) :
    ∀ (fuel : Nat) (l : Array Bool) (a : Act) (w : World), l.size = n + 1 → l.getD n true = false → wpAnyH P md ops' (Peeled P o Q) S fuel l a w → wpAny P md ops Q fuel l a w := by
  intro fuel
  induction fuel with
  | zero => intro l a w hl hn h; exact absurd (ready_same ha hs l ▸ h.1) (ready_some hsz hwf hl hn)
  | succ fuel ih =>
    intro l a w hl hn h
    refine ⟨fun h0 => absurd h0 (ready_some hsz hwf hl hn), fun i hi => ?_⟩
    have h2 := h.2 i (by rw [ready_same ha hs]; exact hi)
    by_cases hin : i = n
    · subst hin
      have h3 := (hno _ _ _ _ h2).2
      have hr := ready_none hsz ho hw hl hi
      have h4 : o.wp P a w (fun a w => Q .normal a w) Q := by
        cases fuel with
        | zero => exact h3.2
        | succ f => exact h3.1 (by rw [ready_same ha hs]; exact hr)
      unfold wpOp
      simp only [ho]
      rw [if_pos (by simp [Region.wanted, hg _ _ ho])]
      exact .inl (Oper.wp_mono (fun a w h => wpAny_done hr h fuel) h4)
    · have hil : ∀ a w, (S w ∧ wpAnyH P md ops' (Peeled P o Q) S fuel (l.setIfInBounds i true) a w) → wpAny P md ops Q fuel (l.setIfInBounds i true) a w :=
        fun a w h => ih _ a w (by simpa using hl) (by rw [getD_set_ne true hin]; exact hn) h.2
      unfold wpOp at h2 ⊢
      rw [hne i hin] at h2
      obtain ⟨x, hx, _⟩ := (mem_ready.1 hi).2
      simp only [hx] at h2 ⊢
      rw [if_pos (by simp [Region.wanted, hg _ _ hx])] at h2 ⊢
      exact h2.imp (wp_peeled hil) (fun h => ⟨h.1, Peeled.out h.2⟩)
def stillOf (o : Oper) : Oper := { o with op := .move (.const (.bool true)), dst := none }
theorem still_op {n : Nat} {o : Oper} (ho' : ops'[n]? = some (stillOf o)) (hg : o.guard = none) (K : Act → World → Prop) (Q : Exit → Act → World → Prop) (a : Act) (w : World) (h : wpOp P ops' Q n K a w) : K a w := by
  unfold wpOp at h
  simp only [ho'] at h
  rw [if_pos (by simp [Region.wanted, stillOf, hg])] at h
  rcases h with h | h
  · exact h
  · exact absurd h.1.1 (fun hh => Array.not_mem_empty _ hh)
theorem wp_region_peel {id : Nat} {a : Act} {w : World} (n : Nat) (o : Oper) (ops2 : List Oper) (hm : P.follows .mixedOrders = true) (ho : ops[n]? = some o) (h2 : ops.toList.set n (stillOf o) = ops2) (hsz : ops.size = n + 1)
    (hc : ((List.range (n + 1)).all fun i => match ops[i]? with | some x => x.guard.isNone && x.after.all fun e => !Region.binds .any e || decide (e.on < i) | none => true) = true) (hw : ((List.range n).all fun i => o.after.any fun e => Region.binds .any e && e.on == i) = true)
    (hS : S w.drew) (h : S w.drew → wpAnyH P .any ops2.toArray (Peeled P o Q) S (n + 1) (Array.replicate (n + 1) false) a w.drew) : (Code.region id ops true).wp P Q a w := by
  subst h2
  have hc' : ∀ (i : Nat) (x : Oper), ops[i]? = some x → x.guard = none ∧ ∀ e ∈ x.after, Region.binds .any e = true → e.on < i := by
    intro i x hx
    have hi : i < n + 1 := by have := (Array.getElem?_eq_some_iff.1 hx).1; omega
    have := List.all_eq_true.1 hc i (List.mem_range.2 hi)
    rw [hx] at this
    simp only [Bool.and_eq_true, Option.isNone_iff_eq_none, Array.all_eq_true_iff_forall_mem, Bool.or_eq_true, Bool.not_eq_true', decide_eq_true_eq] at this
    exact ⟨this.1, fun e he hb => (this.2 e he).resolve_left (by rw [hb]; simp)⟩
  have hget : ∀ i : Nat, (ops.toList.set n (stillOf o)).toArray[i]? = if i = n then some (stillOf o) else ops[i]? := by
    intro i
    have hn : n < ops.toList.length := by simp; omega
    by_cases hi : i = n
    · subst hi; simp [hsz]
    · simp [hi, Ne.symm hi]
  have hn := hget n
  rw [if_pos rfl] at hn
  refine wp_region_any hm ?_
  rw [hsz]
  refine wpAny_peel (S := S) (ops' := (ops.toList.set n (stillOf o)).toArray) hsz (by simp) ho hn (fun i => ?_) (fun i hi => by rw [hget, if_neg hi]) (fun i x hx => (hc' i x hx).2) (fun i hi => ?_) (fun i x hx => (hc' i x hx).1) (still_op hn (hc' _ _ ho).1) _ _ _ _ (by simp) (by simp) (h hS)
  · rw [hget]; split
    · next h => subst h; rw [ho]; rfl
    · rfl
  · have := List.all_eq_true.1 hw i (List.mem_range.2 hi)
    obtain ⟨e, he, hb⟩ := Array.any_eq_true'.1 this
    simp only [Bool.and_eq_true, beq_iff_eq] at hb
    exact ⟨e, he, hb.1, hb.2⟩
end

end Go.Proofs.Ytnclljamcfoolaa
namespace Go.Proofs.Ytnclljamcfoolaa
open Go.RowKit
set_option linter.unusedVariables false
set_option linter.unusedSimpArgs false

theorem size26m : (Try.prog.info? 26).map (·.size) = some 2 := by kernel_rfl
set_option maxRecDepth 100000 in
set_option maxHeartbeats 1000000 in
theorem span45 (l : List T3) (hok : ∀ t ∈ l, t.Ok) (g0 cap B1 B2 B3 : Nat) (s : Int) (hs : 1 ≤ s ∧ s ≤ 20) (hl : l.length ≤ 1000000) (hl0 : 0 < l.length) (w : World) (hR : Row T3.cs 3 w (some ⟨g0, 0, none⟩) l) (h1 : w.cell? ⟨B1, 0, none⟩ = some (.int .i64 0)) (h2 : w.cell? ⟨B2, 0, none⟩ = some (.int .i64 1)) (h3 : w.cell? ⟨B3, 0, none⟩ = some (.int .i64 s)) :
    Calls Try.prog 44 #[.slice (some ⟨g0, 0, none⟩) l.length cap, .func (.func 45) #[] #[.pointer (some ⟨B1, 0, none⟩), .pointer (some ⟨B2, 0, none⟩), .pointer (some ⟨B3, 0, none⟩)]] w fun e w' => e = .returned (.agg #[.int .i64 (mnOf (tbOf s) l (tbOf s l[0])), .int .i64 (mxOf (tbOf s) l (tbOf s l[0]))]) ∧ Below w.heap.size w w' := by
  have l1 := World.block_lt_of_cell? w _ h1
  have l2 := World.block_lt_of_cell? w _ h2
  have l3 := World.block_lt_of_cell? w _ h3
  have HR := Lib.hid hR
  clear hR
  obtain ⟨b, o, hA, hlb, c0, c1, c2⟩ := HR.out.t3 0 hl0
  obtain ⟨rfl, rfl⟩ : g0 = b ∧ 0 = o := by simpa using hA
  clear hA
  have ht0 := hok _ (List.getElem_mem hl0)
  simp only [Nat.zero_mul, Nat.zero_add] at c0 c1 c2
  go_enter Try.func44, Try.ntmps44
  go_upto_region 1 with (fail)
  generalize hW : w.alloc _ = W
  generalize h1_ : w.heap.size = g1
  obtain ⟨hB0_, Hg1, kg1, fg1, lg1, bg1⟩ := gen1 w _ _ hW h1_
  clear hW h1_
  have H0W := Lib.hid hB0_
  clear hB0_
  have HHg1 := Lib.hid Hg1
  clear Hg1
  have HB := Lib.hid (Below.refl W.heap.size W)
  have hq0 := CB.of H0W.out
  have e1 := (hq0.1 _ 0 l1).trans h1
  have e2 := (hq0.1 _ 0 l2).trans h2
  have e3 := (hq0.1 _ 0 l3).trans h3
  have d0 := (hq0.1 _ 0 hlb).trans c0
  have d1 := (hq0.1 _ 1 hlb).trans c1
  have d2 := (hq0.1 _ 2 hlb).trans c2
  have m1 := World.block_lt_of_cell? W _ e1
  have m2 := World.block_lt_of_cell? W _ e2
  have m3 := World.block_lt_of_cell? W _ e3
  have mg := World.block_lt_of_cell? W _ d0
  clear hq0 c0 c1 c2
  go_upto_region 1 with (fail)
  go_cut [5] (fun s5 wx => ∃ g5 : Nat, s5 = .pointer (some ⟨g5, 0, none⟩) ∧ Below W.heap.size W wx ∧ W.heap.size ≤ g5 ∧ g5 < wx.heap.size ∧ wx.cell? ⟨g5, 0, none⟩ = some (.int .i64 (tbOf s l[0])) ∧ wx.cell? ⟨g5, 1, none⟩ = some (.int .i64 (tbOf s l[0])) ∧ wx.frozen? ⟨g5, 0, none⟩ = false ∧ wx.frozen? ⟨g5, 1, none⟩ = false)
  case first =>
    go_region_held3 (fun w' => w'.cell? ⟨g0, 0, none⟩ = some (.int .i64 l[0].a) ∧ w'.cell? ⟨g0, 1, none⟩ = some (.int .i64 l[0].b) ∧ w'.cell? ⟨g0, 2, none⟩ = some (.int .i64 l[0].c))
      (first | exact ⟨(hq.1 _ _ mg).trans d0, (hq.1 _ _ mg).trans d1, (hq.1 _ _ mg).trans d2⟩ | exact ⟨((CB.of (bl_drew HB.out)).1 _ _ mg).trans d0, ((CB.of (bl_drew HB.out)).1 _ _ mg).trans d1, ((CB.of (bl_drew HB.out)).1 _ _ mg).trans d2⟩ | exact ⟨((CB.of (bl_alloc HB.out _)).1 _ _ mg).trans d0, ((CB.of (bl_alloc HB.out _)).1 _ _ mg).trans d1, ((CB.of (bl_alloc HB.out _)).1 _ _ mg).trans d2⟩ | exact ⟨((CB.of (bl_alloc (bl_drew HB.out) _)).1 _ _ mg).trans d0, ((CB.of (bl_alloc (bl_drew HB.out) _)).1 _ _ mg).trans d1, ((CB.of (bl_alloc (bl_drew HB.out) _)).1 _ _ mg).trans d2⟩ | exact ⟨((CB.of (bl_set (bl_set HB.out (by assumption) _) (by assumption) _)).1 _ _ mg).trans d0, ((CB.of (bl_set (bl_set HB.out (by assumption) _) (by assumption) _)).1 _ _ mg).trans d1, ((CB.of (bl_set (bl_set HB.out (by assumption) _) (by assumption) _)).1 _ _ mg).trans d2⟩ | go_keep)
      (first
      | (go_at_call 45; refine (beats45 l[0] ht0 B1 B2 B3 s hs _ (((CB.of (by (repeat (with_reducible first | exact HB.out | apply bl_alloc2 | apply bl_drew2 | apply bl_drewN2)))).1 _ 0 m1).trans e1) (((CB.of (by (repeat (with_reducible first | exact HB.out | apply bl_alloc2 | apply bl_drew2 | apply bl_drewN2)))).1 _ 0 m2).trans e2) (((CB.of (by (repeat (with_reducible first | exact HB.out | apply bl_alloc2 | apply bl_drew2 | apply bl_drewN2)))).1 _ 0 m3).trans e3)).mono ?_; rintro e_ w1 ⟨rfl, hb_⟩; have hqq := CB.of hb_; have hsz := HB.out.size; have HB_ := Lib.hid (bl_then2 (by (repeat (with_reducible first | exact HB.out | apply bl_alloc2 | apply bl_drew2 | apply bl_drewN2))) hb_); clear HB hb_; (try clear hq); have HB := HB_; clear HB_; have hq := CB.of HB.out))
    all_goals (go_wp2_with fail; go_meet; refine ⟨_, rfl, (by first | exact bl_alloc HB.out _ | exact bl_set (bl_set HB.out (by assumption) _) (by assumption) _), (by first | assumption | exact HB.out.size), ?_, ?_, ?_, ?_, ?_⟩ <;> simp [go_sem, tbOf, *] <;> (refine World.cell?_setCell_same' _ _ _ ?_; simp [go_sem, *]))
  case rest =>
    obtain ⟨g5, rfl, hb, b5, l5, k0, k1, f0, f1⟩ := hcut
    have HB := Lib.hid hb
    clear hb
    have hq := CB.of HB.out
    go_upto_block 0 with (fail)
    go_wp2_with fail
    go_loopw [21] (fun i wr => ∃ k : Nat, k ≤ l.length ∧ i = .int .i64 k ∧ Below W.heap.size W wr ∧ g5 < wr.heap.size ∧ wr.cell? ⟨g5, 0, none⟩ = some (.int .i64 (mnOf (tbOf s) (l.take k) (tbOf s l[0]))) ∧ wr.cell? ⟨g5, 1, none⟩ = some (.int .i64 (mxOf (tbOf s) (l.take k) (tbOf s l[0]))) ∧ wr.frozen? ⟨g5, 0, none⟩ = false ∧ wr.frozen? ⟨g5, 1, none⟩ = false)
      (fun i _ => l.length - (intOf i).toNat)
    case atStart => exact ⟨0, Nat.zero_le _, rfl, HB.out, l5, k0, k1, f0, f1⟩
    case round =>
      obtain ⟨k, hk, rfl, hb, l5, k0, k1, f0, f1⟩ := hrel
      clear HB hq
      by_cases hlt : k < l.length
      · have hlti : ((k : Int) < (l.length : Int)) := by omega
        have HBr := Lib.hid hb
        have HRr := Lib.hid ((HR.out.below H0W.out).below HBr.out)
        obtain ⟨b, o, hA, hlb', c0, c1, c2⟩ := HRr.out.t3 k hlt
        obtain ⟨rfl, rfl⟩ : g0 = b ∧ 0 = o := by simpa using hA
        clear hA
        have htk := hok _ (List.getElem_mem hlt)
        simp only [Nat.zero_add] at c0 c1 c2
        go_upto_region 5 with (fail)
        generalize hW : wr.alloc _ = V
        generalize h1_ : wr.heap.size = x1
        obtain ⟨hB0_, Hx1, kx1, fx1, lx1, bx1⟩ := gen1 wr _ _ hW h1_
        clear hW h1_
        have H0V := Lib.hid hB0_
        clear hB0_
        have HHx1 := Lib.hid Hx1
        clear Hx1
        have HB := Lib.hid (Below.refl V.heap.size V)
        have hqV := CB.of H0V.out
        have hqr := CB.of HBr.out
        have E1 := (hqV.1 _ 0 (Nat.lt_of_lt_of_le m1 HBr.out.size)).trans ((hqr.1 _ 0 m1).trans e1)
        have E2 := (hqV.1 _ 0 (Nat.lt_of_lt_of_le m2 HBr.out.size)).trans ((hqr.1 _ 0 m2).trans e2)
        have E3 := (hqV.1 _ 0 (Nat.lt_of_lt_of_le m3 HBr.out.size)).trans ((hqr.1 _ 0 m3).trans e3)
        have G0 := (hqV.1 _ 0 l5).trans k0
        have G1 := (hqV.1 _ 1 l5).trans k1
        have F0 := (hqV.2.1 _ 0 l5).trans f0
        have F1 := (hqV.2.1 _ 1 l5).trans f1
        have M1 := World.block_lt_of_cell? V _ E1
        have M2 := World.block_lt_of_cell? V _ E2
        have M3 := World.block_lt_of_cell? V _ E3
        have M5 := World.block_lt_of_cell? V _ G0
        clear hqV hqr k0 k1 f0 f1 c0 c1 c2
        have hq := CB.of HB.out
        have hmn := Lib.hid (show mnOf (tbOf s) (l.take (k + 1)) (tbOf s l[0]) = min (mnOf (tbOf s) (l.take k) (tbOf s l[0])) (tbOf s l[k]) by
          unfold mnOf; rw [List.take_succ_eq_append_getElem hlt, List.foldl_append]; rfl)
        have hmx := Lib.hid (show mxOf (tbOf s) (l.take (k + 1)) (tbOf s l[0]) = max (mxOf (tbOf s) (l.take k) (tbOf s l[0])) (tbOf s l[k]) by
          unfold mxOf; rw [List.take_succ_eq_append_getElem hlt, List.foldl_append]; rfl)
        have hB := Lib.hid (beats45 l[k] htk B1 B2 B3 s hs)
        change Hid (∀ w : World, _ → _ → _ → Calls _ _ _ _ fun e w' => e = .returned (.int .i64 (tbOf s l[k])) ∧ _) at hB
        generalize mnOf (tbOf s) (l.take k) (tbOf s l[0]) = X at *
        generalize mxOf (tbOf s) (l.take k) (tbOf s l[0]) = Y at *
        generalize tbOf s l[k] = Z at *
        refine wp_region_peel (S := fun w' => (∀ j, w'.cell? ⟨x1, j, none⟩ = #[Value.int IntKind.i64 l[k].a, Value.int IntKind.i64 l[k].b, Value.int IntKind.i64 l[k].c][j]?) ∧ w'.cell? ⟨g5, 0, none⟩ = some (.int .i64 X) ∧ w'.cell? ⟨g5, 1, none⟩ = some (.int .i64 Y) ∧ Below V.heap.size V w') 13 _ _ (by kernel_rfl) rfl rfl rfl (by kernel_rfl) (by kernel_rfl) ⟨kx1, G0, G1, bl_drew (Below.refl _ _)⟩ (fun hHeld => ?_)
        simp only [Act.put, stillOf, List.set_cons_succ, List.set_cons_zero, List.setIfInBounds_toArray, List.getElem_toArray, List.getElem_cons_succ, List.getElem_cons_zero]
        refine wpAnyH_take (i := 0) (v := ?_) rfl (by kernel_rfl) (by kernel_rfl) (by kernel_rfl) (fun _ _ _ h => h) (Or.inl ⟨by rfl, ?_⟩) (by assumption) ?_; rotate_left 1; (focus ((intro w_ hS_; (try dsimp only at hS_); go_simp; first | done | with_reducible rfl))); simp only [Act.put, stillOf, List.set_cons_succ, List.set_cons_zero, List.setIfInBounds_toArray, List.getElem_toArray, List.getElem_cons_succ, List.getElem_cons_zero]
        refine wpAnyH_take (i := 1) (v := ?_) rfl (by kernel_rfl) (by kernel_rfl) (by kernel_rfl) (fun _ _ _ h => h) (Or.inl ⟨by rfl, ?_⟩) (by assumption) ?_; rotate_left 1; (focus ((intro w_ hS_; (try dsimp only at hS_); go_simp; first | done | with_reducible rfl))); simp only [Act.put, stillOf, List.set_cons_succ, List.set_cons_zero, List.setIfInBounds_toArray, List.getElem_toArray, List.getElem_cons_succ, List.getElem_cons_zero]
        refine wpAnyH_take (i := 2) (v := ?_) rfl (by kernel_rfl) (by kernel_rfl) (by kernel_rfl) (fun _ _ _ h => h) (Or.inl ⟨by rfl, ?_⟩) (by assumption) ?_; rotate_left 1; (focus ((intro w_ hS_; (try dsimp only at hS_); go_simp; first | done | with_reducible rfl))); simp only [Act.put, stillOf, List.set_cons_succ, List.set_cons_zero, List.setIfInBounds_toArray, List.getElem_toArray, List.getElem_cons_succ, List.getElem_cons_zero]
        refine wpAnyH_take (i := 3) (v := ?_) rfl (by kernel_rfl) (by kernel_rfl) (by kernel_rfl) (fun _ _ _ h => h) (Or.inl ⟨by rfl, ?_⟩) (by assumption) ?_; rotate_left 1; (focus ((intro w_ hS_; (try dsimp only at hS_); go_simp; first | done | with_reducible rfl))); simp only [Act.put, stillOf, List.set_cons_succ, List.set_cons_zero, List.setIfInBounds_toArray, List.getElem_toArray, List.getElem_cons_succ, List.getElem_cons_zero]
        refine wpAnyH_take (i := 6) (v := ?_) rfl (by kernel_rfl) (by kernel_rfl) (by kernel_rfl) (fun _ _ _ h => h) (Or.inl ⟨by rfl, ?_⟩) (by assumption) ?_; rotate_left 1; (focus ((intro w_ hS_; (try dsimp only at hS_); go_simp; first | done | with_reducible rfl))); simp only [Act.put, stillOf, List.set_cons_succ, List.set_cons_zero, List.setIfInBounds_toArray, List.getElem_toArray, List.getElem_cons_succ, List.getElem_cons_zero]
        refine wpAnyH_take (i := 7) (v := ?_) rfl (by kernel_rfl) (by kernel_rfl) (by kernel_rfl) (fun _ _ _ h => h) (Or.inl ⟨by rfl, ?_⟩) (by assumption) ?_; rotate_left 1; (focus ((intro w_ hS_; (try dsimp only at hS_); go_simp; first | done | with_reducible rfl))); simp only [Act.put, stillOf, List.set_cons_succ, List.set_cons_zero, List.setIfInBounds_toArray, List.getElem_toArray, List.getElem_cons_succ, List.getElem_cons_zero]
        refine wpAnyH_take (i := 8) (v := ?_) rfl (by kernel_rfl) (by kernel_rfl) (by kernel_rfl) (fun _ _ _ h => h) (Or.inl ⟨by rfl, ?_⟩) (by assumption) ?_; rotate_left 1; (focus ((intro w_ hS_; (try dsimp only at hS_); go_simp; first | done | with_reducible rfl))); simp only [Act.put, stillOf, List.set_cons_succ, List.set_cons_zero, List.setIfInBounds_toArray, List.getElem_toArray, List.getElem_cons_succ, List.getElem_cons_zero]
        refine wpAnyH_take (i := 9) (v := ?_) rfl (by kernel_rfl) (by kernel_rfl) (by kernel_rfl) (fun _ _ _ h => h) (Or.inl ⟨by rfl, ?_⟩) (by assumption) ?_; rotate_left 1; (focus ((intro w_ hS_; (try dsimp only at hS_); go_simp; first | done | with_reducible rfl))); simp only [Act.put, stillOf, List.set_cons_succ, List.set_cons_zero, List.setIfInBounds_toArray, List.getElem_toArray, List.getElem_cons_succ, List.getElem_cons_zero]
        refine wpAnyH_ready (rs := [4]) (by kernel_rfl) (by simp) (AllReadyH.cons rfl (fun K hK => ?_) AllReadyH.nil)
        go_simp
        (go_at_call 45; refine (hB.out _ (((CB.of (by (repeat (with_reducible first | exact HB.out | apply bl_alloc2 | apply bl_drew2 | apply bl_drewN2)))).1 _ 0 M1).trans E1) (((CB.of (by (repeat (with_reducible first | exact HB.out | apply bl_alloc2 | apply bl_drew2 | apply bl_drewN2)))).1 _ 0 M2).trans E2) (((CB.of (by (repeat (with_reducible first | exact HB.out | apply bl_alloc2 | apply bl_drew2 | apply bl_drewN2)))).1 _ 0 M3).trans E3)).mono ?_; rintro e_ w1 ⟨rfl, hb_⟩; have HB_ := Lib.hid (bl_then2 (by (repeat (with_reducible first | exact HB.out | apply bl_alloc2 | apply bl_drew2 | apply bl_drewN2))) hb_); clear HB hb_; (try clear hq); have HB := HB_; clear HB_; have hq := CB.of HB.out)
        refine hK.out _ _ ⟨fun j => (hq.1 _ _ lx1).trans (kx1 j), (hq.1 _ _ M5).trans G0, (hq.1 _ _ M5).trans G1, HB.out⟩ (fun hHeld => ?_)
        clear hK K
        refine wpAnyH_take (i := 5) (v := ?_) rfl (by kernel_rfl) (by kernel_rfl) (by kernel_rfl) (fun _ _ _ h => h) (Or.inl ⟨by rfl, ?_⟩) (by assumption) ?_; rotate_left 1; (focus ((intro w_ hS_; (try dsimp only at hS_); go_simp; first | done | with_reducible rfl))); simp only [Act.put, stillOf, List.set_cons_succ, List.set_cons_zero, List.setIfInBounds_toArray, List.getElem_toArray, List.getElem_cons_succ, List.getElem_cons_zero]
        refine wpAnyH_ready (rs := [10]) (by kernel_rfl) (by simp) (AllReadyH.cons rfl (fun K hK => ?_) AllReadyH.nil)
        go_simp
        (go_at_call 45; refine (hB.out _ (((CB.of (by (repeat (with_reducible first | exact HB.out | apply bl_alloc2 | apply bl_drew2 | apply bl_drewN2)))).1 _ 0 M1).trans E1) (((CB.of (by (repeat (with_reducible first | exact HB.out | apply bl_alloc2 | apply bl_drew2 | apply bl_drewN2)))).1 _ 0 M2).trans E2) (((CB.of (by (repeat (with_reducible first | exact HB.out | apply bl_alloc2 | apply bl_drew2 | apply bl_drewN2)))).1 _ 0 M3).trans E3)).mono ?_; rintro e_ w1 ⟨rfl, hb_⟩; have HB_ := Lib.hid (bl_then2 (by (repeat (with_reducible first | exact HB.out | apply bl_alloc2 | apply bl_drew2 | apply bl_drewN2))) hb_); clear HB hb_; (try clear hq); have HB := HB_; clear HB_; have hq := CB.of HB.out)
        refine hK.out _ _ ⟨fun j => (hq.1 _ _ lx1).trans (kx1 j), (hq.1 _ _ M5).trans G0, (hq.1 _ _ M5).trans G1, HB.out⟩ (fun hHeld => ?_)
        clear hK K
        refine wpAnyH_take (i := 11) (v := ?_) rfl (by kernel_rfl) (by kernel_rfl) (by kernel_rfl) (fun _ _ _ h => h) (Or.inl ⟨by rfl, ?_⟩) (by assumption) ?_; rotate_left 1; (focus ((intro w_ hS_; (try dsimp only at hS_); go_simp; first | done | with_reducible rfl))); simp only [Act.put, stillOf, List.set_cons_succ, List.set_cons_zero, List.setIfInBounds_toArray, List.getElem_toArray, List.getElem_cons_succ, List.getElem_cons_zero]
        refine wpAnyH_take (i := 12) (v := ?_) rfl (by kernel_rfl) (by kernel_rfl) (by kernel_rfl) (fun _ _ _ h => h) (Or.inl ⟨by rfl, ?_⟩) (by assumption) ?_; rotate_left 1; (focus ((intro w_ hS_; (try dsimp only at hS_); go_simp; first | done | with_reducible rfl))); simp only [Act.put, stillOf, List.set_cons_succ, List.set_cons_zero, List.setIfInBounds_toArray, List.getElem_toArray, List.getElem_cons_succ, List.getElem_cons_zero]
        refine wpAnyH_take (i := 13) (v := ?_) rfl (by kernel_rfl) (by kernel_rfl) (by kernel_rfl) (fun _ _ _ h => h) (Or.inl ⟨by rfl, ?_⟩) (by assumption) ?_; rotate_left 1; (focus ((intro w_ hS_; (try dsimp only at hS_); go_simp; first | done | with_reducible rfl))); simp only [Act.put, stillOf, List.set_cons_succ, List.set_cons_zero, List.setIfInBounds_toArray, List.getElem_toArray, List.getElem_cons_succ, List.getElem_cons_zero]
        refine wpAnyH_done (by kernel_rfl) ?_ _
        have Z0 := (hq.1 _ _ M5).trans G0
        have Z1 := (hq.1 _ _ M5).trans G1
        have Y0 := (hq.2.1 _ 0 M5).trans F0
        have Y1 := (hq.2.1 _ 1 M5).trans F1
        unfold Peeled
        dsimp only
        go_simp
        go_wp2_with fail
        have e0 : (if Z < X then Z else X) = min X Z := by split <;> omega
        have e9 : (if Y < Z then Z else Y) = max Y Z := by split <;> omega
        rw [e0, e9]
        have hbb := bl_then HBr.out (bl_then (H0V.out) (HB.out))
        have l6 : g5 < w1.heap.size := Nat.lt_of_lt_of_le M5 HB.out.size
        refine ⟨⟨k + 1, by omega, by simp, bl_set (bl_set hbb b5 _) b5 _, by simpa using l6, ?_, ?_, ?_, ?_⟩, ?_⟩
        · rw [hmn.out]; simp [go_sem, Z0, Z1]
        · rw [hmx.out]; simp [go_sem, Z0, Z1]
        · simp [go_sem, Y0, Y1]
        · simp [go_sem, Y0, Y1]
        · simp [intOf]; omega
      · have hkl : k = l.length := by omega
        subst hkl
        rw [List.take_length] at k0 k1
        go_wp2_with ((with_reducible refine st_gate 26 rfl ?_); refine wpList_store_row rfl 26 _ _ rfl g1 _ rfl rfl 26 _ ((hb.block _ lg1).trans HHg1.out) size26m (by simp) (by simp [Value.oneCell']) ?_)
        exact ret_row rfl g1 26 _ _ rfl (setRow_heap ((hb.block _ lg1).trans HHg1.out)) Try.underlying26 rfl size26m rfl ⟨rfl, bl_setRow (bl_then H0W.out hb) bg1 _⟩

end Go.Proofs.Ytnclljamcfoolaa
