/- Walks of package reed: the checks of a job. -/
import Derived.Test.YtnclljamcfoolaaTypes
namespace Go.Proofs.Ytnclljamcfoolaa
open Go.RowKit
set_option linter.unusedVariables false

theorem within1_calls (n lo hi : Int) (w : World) : Calls Try.prog 86 #[.int .i64 n, .int .i64 lo, .int .i64 hi] w fun e w' => e = .returned (.bool (inB n lo hi)) ∧ w = w' := by
  unfold inB
  go_enter Try.func86, Try.ntmps86
  go_wp2
  all_goals go_ret
  all_goals exact ⟨by simp [*] <;> omega, rfl⟩

set_option maxHeartbeats 1000000 in
theorem checkRange1_calls (x : Rg) (lo hi : Int) (w : World) :
    Calls Try.prog 84 #[.agg #[.int .i64 x.mn, .int .i64 x.mx], .int .i64 lo, .int .i64 hi] w fun e w' => e = .returned (.int .i64 (rgErr x lo hi)) ∧ Below w.heap.size w w' := by
  go_enter Try.func84, Try.ntmps84
  go_wp2_with (go_at_call 86; (with_reducible refine (within1_calls _ _ _ _).mono ?_); rintro e_ w1 ⟨rfl, rfl⟩)
  all_goals (go_ret; refine ⟨ret_int ?_, by (repeat (first | assumption | exact Below.refl _ _ | refine bl_alloc ?_ _ | refine bl_drew ?_ | refine bl_drewN ?_ _))⟩; go_tidy; unfold rgErr; simp_all)

set_option maxHeartbeats 1000000 in
theorem checkAll1_calls (xs : List Rg) (lo hi : Int) (A : Option Addr) (n c : Nat) (w : World) (h : Row Rg.cs 2 w A xs) (hn : xs.length = n) (hm : xs.length ≤ 1000000000000000) :
    Calls Try.prog 85 #[.int .i64 lo, .int .i64 hi, .slice A n c] w fun e w' => e = .returned (.int .i64 (allErr xs lo hi)) ∧ Below w.heap.size w w' := by
  subst hn
  go_enter Try.func85, Try.ntmps85
  go_wp2_with fail
  have HR := Lib.hid h
  clear h
  go_loopw [12] (fun i wr => ∃ k : Nat, k ≤ xs.length ∧ i = .int .i64 k ∧ Below w.heap.size w wr ∧ firstErr (fun x => rgErr x lo hi) xs = firstErr (fun x => rgErr x lo hi) (xs.drop k))
    (fun i _ => xs.length - (intOf i).toNat)
  case atStart => exact ⟨0, Nat.zero_le _, rfl, Below.refl _ _, rfl⟩
  case round =>
    obtain ⟨k, hk, rfl, hb, hf⟩ := hrel
    have HF := Lib.hid hf
    have HB := Lib.hid hb
    clear hf hb
    have hq := CB.of HB.out
    by_cases hlt : k < xs.length
    · obtain ⟨b, o, rfl, hlb, hc0, hc1⟩ := HR.out.rg k hlt
      have hlti : ((k : Int) < (xs.length : Int)) := by omega
      go_wp2_with (go_at_call 84; (with_reducible refine (checkRange1_calls (xs[k]) _ _ _).mono ?_); rintro e_ w1 ⟨rfl, hb_⟩; have HB_ := Lib.hid (bl_then2 (by (repeat (with_reducible first | exact HB.out | apply bl_alloc2 | apply bl_drew2 | apply bl_drewN2))) hb_); clear HB hb_; (try clear hq); have HB := HB_; clear HB_; have hq := CB.of HB.out)
      · go_ret
        exact ⟨ret_int (firstErr_is (hk := hlt) HF.out rfl (by simpa using (show (rgErr xs[k] lo hi != 0) = true by assumption))).symm, HB.out⟩
      · go_roundw
        case rel => exact ⟨k + 1, hlt, by go_num, HB.out, firstErr_next (hk := hlt) HF.out (by simpa using (show (rgErr xs[k] lo hi != 0) = false by assumption))⟩
        case measure => simp [intOf]; omega
    · go_wp2_with fail
      go_ret
      exact ⟨ret_int (firstErr_end HF.out (Nat.not_lt.1 hlt)).symm, HB.out⟩

theorem checkAll1_two (x y : Rg) (lo hi : Int) (w : World) :
    Calls Try.prog 85 #[.int .i64 lo, .int .i64 hi, .slice (some ⟨w.heap.size, 0, none⟩) 2 2] (w.alloc (.cells #[.int .i64 x.mn, .int .i64 x.mx, .int .i64 y.mn, .int .i64 y.mx] 26)) fun e w' => e = .returned (.int .i64 (allErr [x, y] lo hi)) ∧ Below (w.alloc (.cells #[.int .i64 x.mn, .int .i64 x.mx, .int .i64 y.mn, .int .i64 y.mx] 26)).heap.size (w.alloc (.cells #[.int .i64 x.mn, .int .i64 x.mx, .int .i64 y.mn, .int .i64 y.mx] 26)) w' :=
  checkAll1_calls [x, y] lo hi _ _ _ _ (row_new2 w x y) rfl (by simp)
theorem checkAll1_four (x y z u : Rg) (lo hi : Int) (w : World) :
    Calls Try.prog 85 #[.int .i64 lo, .int .i64 hi, .slice (some ⟨w.heap.size, 0, none⟩) 4 4] (w.alloc (.cells #[.int .i64 x.mn, .int .i64 x.mx, .int .i64 y.mn, .int .i64 y.mx, .int .i64 z.mn, .int .i64 z.mx, .int .i64 u.mn, .int .i64 u.mx] 26)) fun e w' => e = .returned (.int .i64 (allErr [x, y, z, u] lo hi)) ∧ Below (w.alloc (.cells #[.int .i64 x.mn, .int .i64 x.mx, .int .i64 y.mn, .int .i64 y.mx, .int .i64 z.mn, .int .i64 z.mx, .int .i64 u.mn, .int .i64 u.mx] 26)).heap.size (w.alloc (.cells #[.int .i64 x.mn, .int .i64 x.mx, .int .i64 y.mn, .int .i64 y.mx, .int .i64 z.mn, .int .i64 z.mx, .int .i64 u.mn, .int .i64 u.mx] 26)) w' :=
  checkAll1_calls [x, y, z, u] lo hi _ _ _ _ (row_new4 w x y z u) rfl (by simp)

set_option maxRecDepth 100000 in
set_option maxHeartbeats 1000000 in
theorem reedCheck_calls (j : Job) (A : Option Addr) (c : Nat) (w : World) (h : Row Rg.cs 2 w A j.shifts) (hm : j.shifts.length ≤ 1000000000000000) :
    Calls Try.prog 58 #[j.v A c] w fun e w' => e = .returned (.int .i64 (jobErr j)) ∧ Below w.heap.size w w' := by
  go_enter Try.func58, Try.ntmps58
  go_upto_region 1 with (fail)
  generalize hW : w.alloc _ = W
  generalize h1_ : w.heap.size = g1
  obtain ⟨hB0_, Hg1, kg1, fg1, lg1, bg1⟩ := gen1 w _ _ hW h1_
  clear hW h1_
  have H0W := Lib.hid hB0_
  clear hB0_
  have HHg1 := Lib.hid Hg1
  clear Hg1
  have HB := Lib.hid (Below.refl W.heap.size W)
  have HR := Lib.hid (h.below H0W.out)
  clear h
  go_wp2_with (first
    | (go_at_call 84; (with_reducible refine (checkRange1_calls j.t.pitch _ _ _).mono ?_); rintro e_ w1 ⟨rfl, hb_⟩; have HB_ := Lib.hid (bl_then2 (by (repeat (with_reducible first | exact HB.out | apply bl_alloc2 | apply bl_drew2 | apply bl_drewN2))) hb_); clear HB hb_; (try clear hq); have HB := HB_; clear HB_; have hq := CB.of HB.out)
    | (go_at_call 85; (with_reducible refine (checkAll1_two j.t.tip j.t.root _ _ _).mono ?_); rintro e_ w1 ⟨rfl, hb_⟩; have HB_ := Lib.hid (bl_then2 (by (repeat (with_reducible first | exact HB.out | apply bl_alloc2 | apply bl_drew2 | apply bl_drewN2))) hb_); clear HB hb_; (try clear hq); have HB := HB_; clear HB_; have hq := CB.of HB.out)
    | (go_at_call 85; (with_reducible refine (checkAll1_four j.f.up j.f.down j.f.tipw j.f.rootw _ _ _).mono ?_); rintro e_ w1 ⟨rfl, hb_⟩; have HB_ := Lib.hid (bl_then2 (by (repeat (with_reducible first | exact HB.out | apply bl_alloc2 | apply bl_drew2 | apply bl_drewN2))) hb_); clear HB hb_; (try clear hq); have HB := HB_; clear HB_; have hq := CB.of HB.out)
    | (go_at_call 85; (with_reducible refine (checkAll1_calls j.shifts _ _ _ _ _ _ (HR.out.below HB.out) rfl hm).mono ?_); rintro e_ w1 ⟨rfl, hb_⟩; have HB_ := Lib.hid (bl_then2 (by (repeat (with_reducible first | exact HB.out | apply bl_alloc2 | apply bl_drew2 | apply bl_drewN2))) hb_); clear HB hb_; (try clear hq); have HB := HB_; clear HB_; have hq := CB.of HB.out)
    | (go_at_call 86; (with_reducible refine (within1_calls _ _ _ _).mono ?_); rintro e_ w1 ⟨rfl, rfl⟩))
  all_goals (go_ret; refine ⟨ret_int ?_, by (repeat (first | exact bl_then H0W.out HB.out | exact H0W.out | exact HB.out | exact Below.refl _ _ | refine bl_set ?_ (by assumption) _ | refine bl_alloc ?_ _ | refine bl_drew ?_ | refine bl_drewN ?_ _))⟩; go_tidy; unfold jobErr orE; simp_all; try omega)

end Go.Proofs.Ytnclljamcfoolaa
