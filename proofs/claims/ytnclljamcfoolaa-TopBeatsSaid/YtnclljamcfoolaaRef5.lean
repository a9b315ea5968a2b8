/- Walks of the reference of layer 5: the checks of a box. -/
import Derived.Test.YtnclljamcfoolaaRef1
namespace Go.Proofs.Ytnclljamcfoolaa
open Go.RowKit
set_option linter.unusedVariables false

theorem amongR5_calls (n lo hi : Int) (w : World) : Calls Try.prog 31 #[.int .i64 n, .int .i64 lo, .int .i64 hi] w fun e w' => e = .returned (.bool (inB n lo hi)) ∧ w = w' := by
  unfold inB
  go_enter Try.func31, Try.ntmps31
  go_wp2
  all_goals go_ret
  all_goals exact ⟨by simp [*] <;> omega, rfl⟩

theorem lawR5_calls (l : Law) (w : World) :
    Calls Try.prog 30 #[.agg #[.int .i64 l.first, .int .i64 l.step, .int .i64 l.span, .int .i64 l.press]] w fun e w' => e = .returned (.int .i64 (lawErr l)) ∧ Below w.heap.size w w' := by
  go_enter Try.func30, Try.ntmps30
  go_wp2_with (go_at_call 31; (with_reducible refine (amongR5_calls _ _ _ _).mono ?_); rintro e_ w1 ⟨rfl, rfl⟩)
  all_goals (go_ret; refine ⟨ret_int ?_, by (repeat (first | assumption | exact Below.refl _ _ | refine bl_alloc ?_ _ | refine bl_drew ?_ | refine bl_drewN ?_ _))⟩; go_tidy; unfold lawErr; simp_all)

theorem dueR5_calls (l : Law) (n : Int) (w : World) :
    Calls Try.prog 32 #[.agg #[.int .i64 l.first, .int .i64 l.step, .int .i64 l.span, .int .i64 l.press], .int .i64 n] w fun e w' => e = .returned (.int .i64 (wrap64 (l.first + wrap64 (l.step * n)))) ∧ Below w.heap.size w w' := by
  go_enter Try.func32, Try.ntmps32
  go_wp2
  go_ret
  exact ⟨rfl, by (repeat (first | assumption | exact Below.refl _ _ | refine bl_alloc ?_ _ | refine bl_drew ?_ | refine bl_drewN ?_ _))⟩

set_option maxHeartbeats 1000000 in
theorem checkRangeR5_calls (x : Rg) (m : Int) (w : World) (hm : 0 ≤ m ∧ m ≤ 1000) :
    Calls Try.prog 77 #[.agg #[.int .i64 x.mn, .int .i64 x.mx], .int .i64 m] w fun e w' => e = .returned (.int .i64 (rgErr x (-m) m)) ∧ Below w.heap.size w w' := by
  have hn : wrap64 (-m) = -m := by unfold wrap64; omega
  go_enter Try.func77, Try.ntmps77
  go_wp2_with (go_at_call 31; (with_reducible refine (amongR5_calls _ _ _ _).mono ?_); rintro e_ w1 ⟨rfl, rfl⟩)
  all_goals (go_ret; refine ⟨ret_int ?_, by (repeat (first | assumption | exact Below.refl _ _ | refine bl_alloc ?_ _ | refine bl_drew ?_ | refine bl_drewN ?_ _))⟩; go_tidy; unfold rgErr; simp_all)

set_option maxRecDepth 100000 in
set_option maxHeartbeats 1000000 in
theorem checkSoundsR5_calls (xs : List Snd) (m : Int) (A : Option Addr) (n c : Nat) (w : World) (h : Row Snd.cs 4 w A xs) (hn : xs.length = n) (hm : xs.length ≤ 1000000000000000) :
    Calls Try.prog 33 #[.slice A n c, .int .i64 m] w fun e w' => e = .returned (.int .i64 (sndsErr xs m)) ∧ Below w.heap.size w w' := by
  subst hn
  go_enter Try.func33, Try.ntmps33
  have HR := Lib.hid h
  clear h
  by_cases hlen : m < (xs.length : Int)
  · have hl : decide (m < (xs.length : Int)) = true := decide_eq_true hlen
    go_wp2
    go_ret
    exact ⟨ret_int (by unfold sndsErr; rw [if_pos hlen]), Below.refl _ _⟩
  have hl : decide (m < (xs.length : Int)) = false := decide_eq_false hlen
  have hS := Lib.hid (show sndsErr xs m = firstErr sndErr xs by unfold sndsErr; rw [if_neg hlen])
  go_wp2
  clear hl
  go_loopw [5] (fun i wr => ∃ k : Nat, k ≤ xs.length ∧ i = .int .i64 k ∧ Below w.heap.size w wr ∧ firstErr sndErr xs = firstErr sndErr (xs.drop k))
    (fun i _ => xs.length - (intOf i).toNat)
  case atStart => exact ⟨0, Nat.zero_le _, rfl, Below.refl _ _, rfl⟩
  case round =>
    obtain ⟨k, hk, rfl, hb, hf⟩ := hrel
    have HF := Lib.hid hf
    have HB := Lib.hid hb
    clear hf hb
    have hq := CB.of HB.out
    by_cases hlt : k < xs.length
    · obtain ⟨b, o, rfl, hlb, hc0, hc1, hc2, hc3⟩ := HR.out.snd k hlt
      have hlti : ((k : Int) < (xs.length : Int)) := by omega
      go_wp2_with (first
        | (go_at_call 77; (with_reducible refine (checkRangeR5_calls (xs[k]).tone 30 _ ⟨by decide, by decide⟩).mono ?_); rintro e_ w1 ⟨rfl, hb_⟩; have HB_ := Lib.hid (bl_then2 (by (repeat (with_reducible first | exact HB.out | apply bl_alloc2 | apply bl_drew2 | apply bl_drewN2))) hb_); clear HB hb_; (try clear hq); have HB := HB_; clear HB_; have hq := CB.of HB.out)
        | (go_at_call 77; (with_reducible refine (checkRangeR5_calls (xs[k]).slope 3 _ ⟨by decide, by decide⟩).mono ?_); rintro e_ w1 ⟨rfl, hb_⟩; have HB_ := Lib.hid (bl_then2 (by (repeat (with_reducible first | exact HB.out | apply bl_alloc2 | apply bl_drew2 | apply bl_drewN2))) hb_); clear HB hb_; (try clear hq); have HB := HB_; clear HB_; have hq := CB.of HB.out))
      all_goals first
        | (go_ret
           exact ⟨ret_int (hS.out.trans (firstErr_is (hk := hlt) HF.out (by unfold sndErr orE; simp_all) (by simp_all))).symm, HB.out⟩)
        | (go_roundw
           (case rel => exact ⟨k + 1, hlt, by go_num, HB.out, firstErr_next (hk := hlt) HF.out (by unfold sndErr orE; simp_all)⟩)
           (case measure => simp [intOf]; omega))
    · go_wp2_with fail
      go_ret
      exact ⟨ret_int (hS.out.trans (firstErr_end HF.out (Nat.not_lt.1 hlt))).symm, HB.out⟩

theorem size30r : (Try.prog.info? 30).map (·.size) = some 21 := by kernel_rfl
theorem size51r : (Try.prog.info? 51).map (·.size) = some 18 := by kernel_rfl
set_option maxRecDepth 100000 in
set_option maxHeartbeats 1000000 in
theorem plainR5_calls (b : Box) (A1 A2 : Option Addr) (c1 c2 : Nat) (w : World) :
    Calls Try.prog 34 #[b.v A1 c1 A2 c2] w fun e w' => e = .returned ((blankOf b).v none 0) ∧ Below w.heap.size w w' := by
  unfold Box.v Job.v blankOf
  dsimp only [List.length_nil]
  go_enter Try.func34, Try.ntmps34
  go_upto_region 1 with (fail)
  generalize hW : (w.alloc _).alloc _ = W
  generalize h2_ : w.heap.size + 1 = g2
  generalize h1_ : w.heap.size = g1
  obtain ⟨hB0_, Hg1, Hg2, kg1, kg2, fg1, fg2, lg1, lg2, bg1, bg2, ng12, ng21⟩ := gen2 w _ _ _ _ hW h2_ h1_
  clear hW h1_ h2_
  have H0W := Lib.hid hB0_
  clear hB0_
  have HHg1 := Lib.hid Hg1
  have HHg2 := Lib.hid Hg2
  clear Hg1 Hg2
  go_wp2_with ((with_reducible refine st_gate 51 rfl ?_); refine wpList_store_row rfl 51 _ _ rfl g2 _ rfl rfl 51 _ HHg2.out size51r (by simp) (by simp [Value.oneCell']) ?_)
  exact ret_row rfl g2 51 _ _ rfl (setRow_heap HHg2.out) Try.underlying51 rfl size51r rfl ⟨rfl, bl_setRow H0W.out bg2 _⟩

set_option maxRecDepth 100000 in
set_option maxHeartbeats 1000000 in
theorem ref5Check_calls (b : Box) (A1 A2 : Option Addr) (c1 c2 : Nat) (w : World) (h1 : Row Snd.cs 4 w A1 b.lows) (h2 : Row Snd.cs 4 w A2 b.highs) (hm1 : b.lows.length ≤ 1000000000000000) (hm2 : b.highs.length ≤ 1000000000000000) :
    Calls Try.prog 6 #[b.v A1 c1 A2 c2] w fun e w' => e = .returned (.int .i64 (boxErr b)) ∧ Below w.heap.size w w' := by
  have hw := Lib.hid (due_wrap (b := b))
  unfold Box.v
  go_enter Try.func6, Try.ntmps6
  go_upto_region 1 with (fail)
  generalize hW : w.alloc _ = W
  generalize h1_ : w.heap.size = g1
  obtain ⟨hB0_, Hg1, kg1, fg1, lg1, bg1⟩ := gen1 w _ _ hW h1_
  clear hW h1_
  have H0W := Lib.hid hB0_
  clear hB0_
  have HHg1 := Lib.hid Hg1
  clear Hg1
  have HB := Lib.hid (Below.refl W.heap.size W)
  have HR1 := Lib.hid (h1.below H0W.out)
  have HR2 := Lib.hid (h2.below H0W.out)
  clear h1 h2
  go_wp2_with (first
    | ((with_reducible refine ld_gate 30 rfl ?_); refine wpList_load_row rfl 30 _ rfl g1 rfl 30 _ (0, 0) _ ((HB.out.block _ lg1).trans HHg1.out) Try.underlying30 rfl size30r ?_)
    | (go_at_call 30; (with_reducible refine (lawR5_calls b.law _).mono ?_); rintro e_ w1 ⟨rfl, hb_⟩; have HB_ := Lib.hid (bl_then2 (by (repeat (with_reducible first | exact HB.out | apply bl_alloc2 | apply bl_drew2 | apply bl_drewN2))) hb_); clear HB hb_; (try clear hq); have HB := HB_; clear HB_; have hq := CB.of HB.out)
    | (go_at_call 32; (with_reducible refine (dueR5_calls b.law _ _).mono ?_); rintro e_ w1 ⟨rfl, hb_⟩; have HB_ := Lib.hid (bl_then2 (by (repeat (with_reducible first | exact HB.out | apply bl_alloc2 | apply bl_drew2 | apply bl_drewN2))) hb_); clear HB hb_; (try clear hq); have HB := HB_; clear HB_; have hq := CB.of HB.out)
    | (go_at_call 31; (with_reducible refine (amongR5_calls _ _ _ _).mono ?_); rintro e_ w1 ⟨rfl, rfl⟩)
    | (go_at_call 33; (with_reducible refine (checkSoundsR5_calls b.lows _ _ _ _ _ (HR1.out.below HB.out) rfl hm1).mono ?_); rintro e_ w1 ⟨rfl, hb_⟩; have HB_ := Lib.hid (bl_then2 (by (repeat (with_reducible first | exact HB.out | apply bl_alloc2 | apply bl_drew2 | apply bl_drewN2))) hb_); clear HB hb_; (try clear hq); have HB := HB_; clear HB_; have hq := CB.of HB.out)
    | (go_at_call 33; (with_reducible refine (checkSoundsR5_calls b.highs _ _ _ _ _ (HR2.out.below HB.out) rfl hm2).mono ?_); rintro e_ w1 ⟨rfl, hb_⟩; have HB_ := Lib.hid (bl_then2 (by (repeat (with_reducible first | exact HB.out | apply bl_alloc2 | apply bl_drew2 | apply bl_drewN2))) hb_); clear HB hb_; (try clear hq); have HB := HB_; clear HB_; have hq := CB.of HB.out)
    | (go_at_call 34; refine (plainR5_calls b _ _ _ _ _).mono ?_; rintro e_ w1 ⟨rfl, hb_⟩; have HB_ := Lib.hid (bl_then2 (by (repeat (with_reducible first | exact HB.out | apply bl_alloc2 | apply bl_drew2 | apply bl_drewN2))) hb_); clear HB hb_; (try clear hq); have HB := HB_; clear HB_; have hq := CB.of HB.out)
    | (go_at_call 17; refine (ref1Check_calls (blankOf b) _ _ _ (.inl rfl) (by simp [blankOf])).mono ?_; rintro e_ w1 ⟨rfl, hb_⟩; have HB_ := Lib.hid (bl_then2 (by (repeat (with_reducible first | exact HB.out | apply bl_alloc2 | apply bl_drew2 | apply bl_drewN2))) hb_); clear HB hb_; (try clear hq); have HB := HB_; clear HB_; have hq := CB.of HB.out))
  all_goals (go_ret; refine ⟨ret_int ?_, by (repeat (first | exact bl_then H0W.out HB.out | exact H0W.out | exact HB.out | exact Below.refl _ _ | refine bl_set ?_ (by assumption) _ | refine bl_alloc ?_ _ | refine bl_drew ?_ | refine bl_drewN ?_ _))⟩; go_tidy; have hw' := hw.out; clear hw; unfold boxErr orE; simp_all)

end Go.Proofs.Ytnclljamcfoolaa
