/- Walks of package voice: the checks of a box, the beat of a pair. -/
import Derived.Test.YtnclljamcfoolaaReed1
import Derived.Test.YtnclljamcfoolaaVoice1
namespace Go.Proofs.Ytnclljamcfoolaa
open Go.RowKit
set_option linter.unusedVariables false

theorem within5_calls (n lo hi : Int) (w : World) : Calls Try.prog 79 #[.int .i64 n, .int .i64 lo, .int .i64 hi] w fun e w' => e = .returned (.bool (inB n lo hi)) ∧ w = w' := by
  unfold inB
  go_enter Try.func79, Try.ntmps79
  go_wp2
  all_goals go_ret
  all_goals exact ⟨by simp [*] <;> omega, rfl⟩

theorem law5_calls (l : Law) (w : World) :
    Calls Try.prog 98 #[.agg #[.int .i64 l.first, .int .i64 l.step, .int .i64 l.span, .int .i64 l.press]] w fun e w' => e = .returned (.int .i64 (lawErr l)) ∧ Below w.heap.size w w' := by
  go_enter Try.func98, Try.ntmps98
  go_wp2_with (go_at_call 79; (with_reducible refine (within5_calls _ _ _ _).mono ?_); rintro e_ w1 ⟨rfl, rfl⟩)
  all_goals (go_ret; refine ⟨ret_int ?_, by (repeat (first | assumption | exact Below.refl _ _ | refine bl_alloc ?_ _ | refine bl_drew ?_ | refine bl_drewN ?_ _))⟩; go_tidy; unfold lawErr; simp_all)

theorem due5_calls (l : Law) (n : Int) (w : World) :
    Calls Try.prog 99 #[.agg #[.int .i64 l.first, .int .i64 l.step, .int .i64 l.span, .int .i64 l.press], .int .i64 n] w fun e w' => e = .returned (.int .i64 (wrap64 (l.first + wrap64 (l.step * n)))) ∧ Below w.heap.size w w' := by
  go_enter Try.func99, Try.ntmps99
  go_wp2
  go_ret
  exact ⟨rfl, by (repeat (first | assumption | exact Below.refl _ _ | refine bl_alloc ?_ _ | refine bl_drew ?_ | refine bl_drewN ?_ _))⟩

set_option maxRecDepth 100000 in
set_option maxHeartbeats 1000000 in
theorem checkSound5_calls (s : Snd) (w : World) :
    Calls Try.prog 113 #[.agg #[.int .i64 s.tone.mn, .int .i64 s.tone.mx, .int .i64 s.slope.mn, .int .i64 s.slope.mx]] w fun e w' => e = .returned (.int .i64 (sndErr s)) ∧ Below w.heap.size w w' := by
  have i0 : ∀ w, (Instr.index 167 (.agg #[.int .i64 s.tone.mn, .int .i64 s.tone.mx, .int .i64 s.slope.mn, .int .i64 s.slope.mx]) (.int .i64 0)).run Try.prog w = .ok (.agg #[.int .i64 s.tone.mn, .int .i64 s.tone.mx]) w := fun _ => by kernel_rfl
  have i1 : ∀ w, (Instr.index 167 (.agg #[.int .i64 s.tone.mn, .int .i64 s.tone.mx, .int .i64 s.slope.mn, .int .i64 s.slope.mx]) (.int .i64 1)).run Try.prog w = .ok (.agg #[.int .i64 s.slope.mn, .int .i64 s.slope.mx]) w := fun _ => by kernel_rfl
  go_enter Try.func113, Try.ntmps113
  go_upto_region 1 with (fail)
  generalize hW : w.alloc _ = W
  generalize h1_ : w.heap.size = g1
  obtain ⟨hB0_, Hg1, kg1, fg1, lg1, bg1⟩ := gen1 w _ _ hW h1_
  clear hW h1_
  have H0W := Lib.hid hB0_
  clear hB0_
  have HHg1 := Lib.hid Hg1
  clear Hg1
  go_wp2
  go_loopw [11] (fun i wr => ∃ k : Nat, k ≤ 2 ∧ i = .int .i64 k ∧ Below W.heap.size W wr ∧ (1 ≤ k → rgErr s.tone (-30) 30 = 0) ∧ (2 ≤ k → rgErr s.slope (-3) 3 = 0))
    (fun i _ => 2 - (intOf i).toNat)
  case atStart => exact ⟨0, by omega, rfl, Below.refl _ _, by omega, by omega⟩
  case round =>
    obtain ⟨k, hk, rfl, hb, h1, h2⟩ := hrel
    have HB := Lib.hid hb
    have HK := Lib.hid (And.intro h1 h2)
    clear hb h1 h2
    have hq := CB.of HB.out
    obtain rfl | rfl | rfl : k = 0 ∨ k = 1 ∨ k = 2 := by omega
    · go_wp2_with (go_at_call 79; (with_reducible refine (within5_calls _ _ _ _).mono ?_); rintro e_ w1 ⟨rfl, rfl⟩)
      all_goals first
        | (go_ret; exact ⟨ret_int (by go_tidy; unfold sndErr orE rgErr; simp_all), by (repeat (first | exact bl_then H0W.out HB.out | exact H0W.out | exact HB.out | exact Below.refl _ _ | refine bl_set ?_ (by assumption) _ | refine bl_alloc ?_ _ | refine bl_drew ?_ | refine bl_drewN ?_ _))⟩)
        | (go_roundw
           (case rel => exact ⟨1, by omega, by go_num, by (repeat (with_reducible first | exact HB.out | apply bl_alloc2 | apply bl_drew2 | apply bl_drewN2)), fun _ => by go_tidy; unfold rgErr; simp_all, by omega⟩)
           (case measure => simp [intOf]))
    · have h0 : rgErr s.tone (-30) 30 = 0 := HK.out.1 (by omega)
      go_wp2_with (go_at_call 79; (with_reducible refine (within5_calls _ _ _ _).mono ?_); rintro e_ w1 ⟨rfl, rfl⟩)
      all_goals first
        | (go_ret; exact ⟨ret_int (by go_tidy; unfold sndErr orE; rw [if_pos h0]; unfold rgErr; simp_all), by (repeat (first | exact bl_then H0W.out HB.out | exact H0W.out | exact HB.out | exact Below.refl _ _ | refine bl_set ?_ (by assumption) _ | refine bl_alloc ?_ _ | refine bl_drew ?_ | refine bl_drewN ?_ _))⟩)
        | (go_roundw
           (case rel => exact ⟨2, by omega, by go_num, by (repeat (with_reducible first | exact HB.out | apply bl_alloc2 | apply bl_drew2 | apply bl_drewN2)), fun _ => h0, fun _ => by go_tidy; unfold rgErr; simp_all⟩)
           (case measure => simp [intOf]))
    · go_wp2_with fail
      go_ret
      exact ⟨ret_int (by unfold sndErr orE; rw [if_pos (HK.out.1 (by omega)), HK.out.2 (by omega)]), by (repeat (first | exact bl_then H0W.out HB.out | exact H0W.out | exact HB.out | exact Below.refl _ _ | refine bl_set ?_ (by assumption) _ | refine bl_alloc ?_ _ | refine bl_drew ?_ | refine bl_drewN ?_ _))⟩

set_option maxRecDepth 100000 in
set_option maxHeartbeats 1000000 in
theorem checkSounds5_calls (xs : List Snd) (m : Int) (A : Option Addr) (n c : Nat) (w : World) (h : Row Snd.cs 4 w A xs) (hn : xs.length = n) (hm : xs.length ≤ 1000000000000000) :
    Calls Try.prog 100 #[.slice A n c, .int .i64 m] w fun e w' => e = .returned (.int .i64 (sndsErr xs m)) ∧ Below w.heap.size w w' := by
  subst hn
  go_enter Try.func100, Try.ntmps100
  have HR := Lib.hid h
  clear h
  by_cases hlen : m < (xs.length : Int)
  · have hl : decide (m < (xs.length : Int)) = true := decide_eq_true hlen
    go_wp2
    go_ret
    exact ⟨ret_int (by unfold sndsErr; rw [if_pos hlen]), Below.refl _ _⟩
  have hl : decide (m < (xs.length : Int)) = false := decide_eq_false hlen
  have hS := Lib.hid (show sndsErr xs m = firstErr sndErr xs by unfold sndsErr; rw [if_neg hlen])
  go_wp2
  clear hl
  go_loopw [14] (fun i wr => ∃ k : Nat, k ≤ xs.length ∧ i = .int .i64 k ∧ Below w.heap.size w wr ∧ firstErr sndErr xs = firstErr sndErr (xs.drop k))
    (fun i _ => xs.length - (intOf i).toNat)
  case atStart => exact ⟨0, Nat.zero_le _, rfl, Below.refl _ _, rfl⟩
  case round =>
    obtain ⟨k, hk, rfl, hb, hf⟩ := hrel
    have HF := Lib.hid hf
    have HB := Lib.hid hb
    clear hf hb
    have hq := CB.of HB.out
    by_cases hlt : k < xs.length
    · obtain ⟨b, o, rfl, hlb, hc0, hc1, hc2, hc3⟩ := HR.out.snd k hlt
      have hlti : ((k : Int) < (xs.length : Int)) := by omega
      go_wp2_with (go_at_call 113; (with_reducible refine (checkSound5_calls (xs[k]) _).mono ?_); rintro e_ w1 ⟨rfl, hb_⟩; have HB_ := Lib.hid (bl_then2 (by (repeat (with_reducible first | exact HB.out | apply bl_alloc2 | apply bl_drew2 | apply bl_drewN2))) hb_); clear HB hb_; (try clear hq); have HB := HB_; clear HB_; have hq := CB.of HB.out)
      · go_ret
        exact ⟨ret_int (hS.out.trans (firstErr_is (hk := hlt) HF.out rfl (by simpa using (show (sndErr xs[k] != 0) = true by assumption)))).symm, HB.out⟩
      · go_roundw
        case rel => exact ⟨k + 1, hlt, by go_num, HB.out, firstErr_next (hk := hlt) HF.out (by simpa using (show (sndErr xs[k] != 0) = false by assumption))⟩
        case measure => simp [intOf]; omega
    · go_wp2_with fail
      go_ret
      exact ⟨ret_int (hS.out.trans (firstErr_end HF.out (Nat.not_lt.1 hlt))).symm, HB.out⟩

theorem size30 : (Try.prog.info? 30).map (·.size) = some 21 := by kernel_rfl
theorem size51 : (Try.prog.info? 51).map (·.size) = some 18 := by kernel_rfl
theorem size28 : (Try.prog.info? 28).map (·.size) = some 9 := by kernel_rfl

end Go.Proofs.Ytnclljamcfoolaa
