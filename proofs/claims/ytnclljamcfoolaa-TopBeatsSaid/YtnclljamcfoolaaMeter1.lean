/- Walks of package meter: the checks. -/
import Derived.Test.YtnclljamcfoolaaTypes
namespace Go.Proofs.Ytnclljamcfoolaa
open Go.RowKit
set_option linter.unusedVariables false

theorem in_calls (n lo hi : Int) (w : World) : Calls Try.prog 42 #[.int .i64 n, .int .i64 lo, .int .i64 hi] w fun e w' => e = .returned (.bool (inB n lo hi)) ∧ w = w' := by
  unfold inB
  go_enter Try.func42, Try.ntmps42
  go_wp2
  all_goals go_ret
  all_goals exact ⟨by simp [*] <;> omega, rfl⟩

set_option maxHeartbeats 1000000 in
theorem checkReading_calls (r : Rd) (n : Nat) (w : World) (hn : n ≤ 100) :
    Calls Try.prog 50 #[.agg #[.int .i64 r.kind, .int .i64 r.a, .int .i64 r.b, .int .i64 r.secs, .int .i64 r.shown.mn, .int .i64 r.shown.mx], .int .i64 n] w fun e w' => e = .returned (.int .i64 (readErr r n)) ∧ Below w.heap.size w w' := by
  go_enter Try.func50, Try.ntmps50
  go_wp2_with (go_at_call 42; (with_reducible refine (in_calls _ _ _ _).mono ?_); rintro e_ w1 ⟨rfl, rfl⟩)
  all_goals go_ret
  all_goals refine ⟨ret_int ?_, by (repeat (first | assumption | exact Below.refl _ _ | refine bl_alloc ?_ _ | refine bl_drew ?_ | refine bl_drewN ?_ _))⟩
  all_goals go_tidy
  all_goals unfold readErr
  all_goals simp_all

set_option maxRecDepth 100000 in
set_option maxHeartbeats 1000000 in
theorem meterCheck_calls (e : Ear) (A1 A2 : Option Addr) (c1 c2 : Nat) (w : World) (h1 : Row Rg.cs 2 w A1 e.tones) (h2 : Row Rd.cs 6 w A2 e.reads) (hm1 : e.tones.length ≤ 1000000000000000) (hm2 : e.reads.length ≤ 1000000000000000) :
    Calls Try.prog 49 #[.agg #[.int .i64 e.slack, .slice A1 e.tones.length c1, .slice A2 e.reads.length c2]] w fun ed w' => ed = .returned (.int .i64 (earErr e)) ∧ Below w.heap.size w w' := by
  go_enter Try.func49, Try.ntmps49
  go_upto_block 0 with (fail)
  generalize hW : w.alloc _ = W
  generalize h1_ : w.heap.size = g1
  obtain ⟨hB0_, Hg1, kg1, fg1, lg1, bg1⟩ := gen1 w _ _ hW h1_
  clear hW h1_
  have H0W := Lib.hid hB0_
  clear hB0_
  have HHg1 := Lib.hid Hg1
  clear Hg1
  go_wp2_with (go_at_call 42; (with_reducible refine (in_calls _ _ _ _).mono ?_); rintro e_ w1 ⟨rfl, rfl⟩)
  · (go_ret; refine ⟨ret_int ?_, by (repeat (first | exact bl_then H0W.out HB.out | exact H0W.out | exact HB.out | exact Below.refl _ _ | refine bl_set ?_ (by assumption) _ | refine bl_alloc ?_ _ | refine bl_drew ?_ | refine bl_drewN ?_ _))⟩; go_tidy; unfold earErr; simp_all; try omega)
  · (go_ret; refine ⟨ret_int ?_, by (repeat (first | exact bl_then H0W.out HB.out | exact H0W.out | exact HB.out | exact Below.refl _ _ | refine bl_set ?_ (by assumption) _ | refine bl_alloc ?_ _ | refine bl_drew ?_ | refine bl_drewN ?_ _))⟩; go_tidy; unfold earErr; simp_all; try omega)
  · (go_ret; refine ⟨ret_int ?_, by (repeat (first | exact bl_then H0W.out HB.out | exact H0W.out | exact HB.out | exact Below.refl _ _ | refine bl_set ?_ (by assumption) _ | refine bl_alloc ?_ _ | refine bl_drew ?_ | refine bl_drewN ?_ _))⟩; go_tidy; unfold earErr; simp_all; try omega)
  have hA := Lib.hid (show (inB e.slack 0 3 = true) ∧ e.tones.length ≠ 0 ∧ e.tones.length ≤ 3 by go_tidy; simp_all; try omega)
  rename (!inB e.slack 0 3) = false => t1
  rename ((e.tones.length : Int) == 0) = false => t2
  clear t1 t2
  have h1' := Lib.hid (h1.below H0W.out)
  have h2' := Lib.hid (h2.below H0W.out)
  clear h1 h2
  go_loopw [26] (fun i wr => ∃ k : Nat, k ≤ e.tones.length ∧ i = .int .i64 k ∧ Below W.heap.size W wr ∧ firstErr toneErr e.tones = firstErr toneErr (e.tones.drop k))
    (fun i _ => e.tones.length - (intOf i).toNat)
  case atStart => exact ⟨0, Nat.zero_le _, rfl, Below.refl _ _, rfl⟩
  case round =>
    obtain ⟨k, hk, rfl, hb, hf⟩ := hrel
    have HF := Lib.hid hf
    have HB := Lib.hid hb
    clear hf hb
    have hq := CB.of HB.out
    by_cases hlt : k < e.tones.length
    · obtain ⟨b, o, rfl, hlb, hc0, hc1'⟩ := (h1'.out.below HB.out).rg k hlt
      have hfe := Lib.hid (firstErr_at toneErr e.tones k hlt)
      go_wp2_with (go_at_call 42; (with_reducible refine (in_calls _ _ _ _).mono ?_); rintro e_ w1 ⟨rfl, rfl⟩)
      all_goals first
        | (go_ret; refine ⟨ret_int (earErr_tone hA.out (firstErr_is (hk := hlt) HF.out ?_ (by decide)) (by decide)).symm, by (repeat (first | exact bl_then H0W.out HB.out | exact H0W.out | exact HB.out | exact Below.refl _ _ | refine bl_set ?_ (by assumption) _ | refine bl_alloc ?_ _ | refine bl_drew ?_ | refine bl_drewN ?_ _))⟩; go_tidy; unfold toneErr; simp only [inB_true, inB_false, Bool.not_eq_true', Bool.not_eq_false', wrap64] at *; (repeat' split) <;> omega)
        | (go_roundw
           (case rel => exact ⟨k + 1, hlt, by go_num, by (repeat (with_reducible first | exact HB.out | apply bl_alloc2 | apply bl_drew2 | apply bl_drewN2)), firstErr_next (hk := hlt) HF.out (by go_tidy; unfold toneErr; simp only [inB_true, inB_false, Bool.not_eq_true', Bool.not_eq_false', wrap64] at *; (repeat' split) <;> omega)⟩)
           (case measure => simp [intOf]; omega))
    · have hf0 := Lib.hid (firstErr_end HF.out (Nat.not_lt.1 hlt))
      go_wp2_with fail
      · go_ret
        exact ⟨ret_int (earErr_many hA.out hf0.out (by assumption)).symm, by (repeat (first | exact bl_then H0W.out HB.out | exact H0W.out | exact HB.out | exact Below.refl _ _ | refine bl_set ?_ (by assumption) _ | refine bl_alloc ?_ _ | refine bl_drew ?_ | refine bl_drewN ?_ _))⟩
      have h6 : (e.reads.length : Int) ≤ 6 := by assumption
      obtain ⟨W1, rfl⟩ : ∃ W1 : World, W1 = wr := ⟨_, rfl⟩
      go_loopw [60] (fun i wr => ∃ k : Nat, k ≤ e.reads.length ∧ i = .int .i64 k ∧ Below W.heap.size W wr ∧ firstErr (fun r => readErr r e.tones.length) e.reads = firstErr (fun r => readErr r e.tones.length) (e.reads.drop k))
        (fun i _ => e.reads.length - (intOf i).toNat)
      case atStart => exact ⟨0, Nat.zero_le _, rfl, HB.out, rfl⟩
      case round =>
        obtain ⟨k, hk, rfl, hb, hf⟩ := hrel
        have HF := Lib.hid hf
        clear HB hq
        have HB := Lib.hid hb
        clear hf hb
        have hq := CB.of HB.out
        by_cases hlt : k < e.reads.length
        · obtain ⟨b, o, rfl, hlb, hc0, hc1', hc2', hc3, hc4, hc5⟩ := (h2'.out.below HB.out).rd k hlt
          go_wp2_with (go_at_call 50; (with_reducible refine (checkReading_calls (e.reads[k]) _ _ (by omega)).mono ?_); rintro e_ w1 ⟨rfl, hb_⟩; have HB_ := Lib.hid (bl_then2 (by (repeat (with_reducible first | exact HB.out | apply bl_alloc2 | apply bl_drew2 | apply bl_drewN2))) hb_); clear HB hb_; (try clear hq); have HB := HB_; clear HB_; have hq := CB.of HB.out)
          · go_ret
            exact ⟨ret_int (earErr_reads hA.out hf0.out h6 (firstErr_is (hk := hlt) HF.out rfl (by simpa using (show (readErr e.reads[k] e.tones.length != 0) = true by assumption)))).symm, by (repeat (first | exact bl_then H0W.out HB.out | exact H0W.out | exact HB.out | exact Below.refl _ _ | refine bl_set ?_ (by assumption) _ | refine bl_alloc ?_ _ | refine bl_drew ?_ | refine bl_drewN ?_ _))⟩
          · go_roundw
            case rel => exact ⟨k + 1, hlt, by go_num, HB.out, firstErr_next (hk := hlt) HF.out (by simpa using (show (readErr e.reads[k] e.tones.length != 0) = false by assumption))⟩
            case measure => simp [intOf]; omega
        · go_wp2_with fail
          go_ret
          exact ⟨ret_int (earErr_reads hA.out hf0.out h6 (firstErr_end HF.out (Nat.not_lt.1 hlt))).symm, by (repeat (first | exact bl_then H0W.out HB.out | exact H0W.out | exact HB.out | exact Below.refl _ _ | refine bl_set ?_ (by assumption) _ | refine bl_alloc ?_ _ | refine bl_drew ?_ | refine bl_drewN ?_ _))⟩

end Go.Proofs.Ytnclljamcfoolaa
