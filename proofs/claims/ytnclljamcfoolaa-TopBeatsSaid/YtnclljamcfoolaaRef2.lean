/- Walks of the reference of layer 2: the checks. -/
import Derived.Test.YtnclljamcfoolaaTypes
namespace Go.Proofs.Ytnclljamcfoolaa
open Go.RowKit
set_option linter.unusedVariables false

theorem among2_calls (n lo hi : Int) (w : World) : Calls Try.prog 38 #[.int .i64 n, .int .i64 lo, .int .i64 hi] w fun e w' => e = .returned (.bool (inB n lo hi)) ∧ w = w' := by
  unfold inB
  go_enter Try.func38, Try.ntmps38
  go_wp2
  all_goals go_ret
  all_goals exact ⟨by simp [*] <;> omega, rfl⟩

set_option maxHeartbeats 1000000 in
theorem checkRange2_calls (x : Rg) (lo hi : Int) (w : World) :
    Calls Try.prog 39 #[.agg #[.int .i64 x.mn, .int .i64 x.mx], .int .i64 lo, .int .i64 hi] w fun e w' => e = .returned (.int .i64 (rgErr x lo hi)) ∧ Below w.heap.size w w' := by
  go_enter Try.func39, Try.ntmps39
  go_wp2_with (go_at_call 38; (with_reducible refine (among2_calls _ _ _ _).mono ?_); rintro e_ w1 ⟨rfl, rfl⟩)
  all_goals (go_ret; refine ⟨ret_int ?_, by (repeat (first | assumption | exact Below.refl _ _ | refine bl_alloc ?_ _ | refine bl_drew ?_ | refine bl_drewN ?_ _))⟩; go_tidy; unfold rgErr; simp_all)

set_option maxHeartbeats 2000000 in
theorem checkReading2_calls (r : Rd) (n : Nat) (w : World) (hn : n ≤ 100) :
    Calls Try.prog 40 #[.agg #[.int .i64 r.kind, .int .i64 r.a, .int .i64 r.b, .int .i64 r.secs, .int .i64 r.shown.mn, .int .i64 r.shown.mx], .int .i64 n] w fun e w' => e = .returned (.int .i64 (readErr r n)) ∧ Below w.heap.size w w' := by
  go_enter Try.func40, Try.ntmps40
  go_wp2_with (first | (go_at_call 38; (with_reducible refine (among2_calls _ _ _ _).mono ?_); rintro e_ w1 ⟨rfl, rfl⟩) | (go_at_call 39; refine (checkRange2_calls r.shown _ _ _).mono ?_; rintro e_ w1 ⟨rfl, hb_⟩))
  all_goals (go_ret; refine ⟨ret_int ?_, by first | (refine bl_then ?_ hb_; (repeat (first | assumption | exact Below.refl _ _ | refine bl_alloc ?_ _ | refine bl_drew ?_ | refine bl_drewN ?_ _)); done) | (repeat (first | assumption | exact Below.refl _ _ | refine bl_alloc ?_ _ | refine bl_drew ?_ | refine bl_drewN ?_ _))⟩; go_tidy; unfold readErr; (try unfold rgErr); simp_all; try (first | omega | (intro h_; exfalso; omega)))

set_option maxRecDepth 100000 in
set_option maxHeartbeats 1000000 in
theorem ref2Check_calls (e : Ear) (A1 A2 : Option Addr) (c1 c2 : Nat) (w : World) (h1 : Row Rg.cs 2 w A1 e.tones) (h2 : Row Rd.cs 6 w A2 e.reads) (hm1 : e.tones.length ≤ 1000000000000000) (hm2 : e.reads.length ≤ 1000000000000000) :
    Calls Try.prog 9 #[.agg #[.int .i64 e.slack, .slice A1 e.tones.length c1, .slice A2 e.reads.length c2]] w fun ed w' => ed = .returned (.int .i64 (earErr e)) ∧ Below w.heap.size w w' := by
  go_enter Try.func9, Try.ntmps9
  go_upto_region 1 with (fail)
  generalize hW : w.alloc _ = W
  generalize h1_ : w.heap.size = g1
  obtain ⟨hB0_, Hg1, kg1, fg1, lg1, bg1⟩ := gen1 w _ _ hW h1_
  clear hW h1_
  have H0W := Lib.hid hB0_
  clear hB0_
  have HHg1 := Lib.hid Hg1
  clear Hg1
  go_wp2_with (go_at_call 38; (with_reducible refine (among2_calls _ _ _ _).mono ?_); rintro e_ w1 ⟨rfl, rfl⟩)
  · (go_ret; refine ⟨ret_int ?_, by (repeat (first | exact bl_then H0W.out HB.out | exact H0W.out | exact HB.out | exact Below.refl _ _ | refine bl_set ?_ (by assumption) _ | refine bl_alloc ?_ _ | refine bl_drew ?_ | refine bl_drewN ?_ _))⟩; go_tidy; unfold earErr; simp_all; try omega)
  · (go_ret; refine ⟨ret_int ?_, by (repeat (first | exact bl_then H0W.out HB.out | exact H0W.out | exact HB.out | exact Below.refl _ _ | refine bl_set ?_ (by assumption) _ | refine bl_alloc ?_ _ | refine bl_drew ?_ | refine bl_drewN ?_ _))⟩; go_tidy; unfold earErr; simp_all; try omega)
  · (go_ret; refine ⟨ret_int ?_, by (repeat (first | exact bl_then H0W.out HB.out | exact H0W.out | exact HB.out | exact Below.refl _ _ | refine bl_set ?_ (by assumption) _ | refine bl_alloc ?_ _ | refine bl_drew ?_ | refine bl_drewN ?_ _))⟩; go_tidy; unfold earErr; simp_all; try omega)
  have hA := Lib.hid (show (inB e.slack 0 3 = true) ∧ e.tones.length ≠ 0 ∧ e.tones.length ≤ 3 by go_tidy; simp_all; try omega)
  rename (!inB e.slack 0 3) = false => t1
  rename ((e.tones.length : Int) == 0) = false => t2
  clear t1 t2
  have h1' := Lib.hid (h1.below H0W.out)
  have h2' := Lib.hid (h2.below H0W.out)
  clear h1 h2
  go_loopw [3] (fun i wr => ∃ k : Nat, k ≤ e.tones.length ∧ i = .int .i64 k ∧ Below W.heap.size W wr ∧ firstErr toneErr e.tones = firstErr toneErr (e.tones.drop k))
    (fun i _ => e.tones.length - (intOf i).toNat)
  case atStart => exact ⟨0, Nat.zero_le _, rfl, Below.refl _ _, rfl⟩
  case round =>
    obtain ⟨k, hk, rfl, hb, hf⟩ := hrel
    have HF := Lib.hid hf
    have HB := Lib.hid hb
    clear hf hb
    have hq := CB.of HB.out
    by_cases hlt : k < e.tones.length
    · obtain ⟨b, o, rfl, hlb, hc0, hc1'⟩ := h1'.out.rg k hlt
      have hlti : ((k : Int) < (e.tones.length : Int)) := by omega
      go_wp2_with (go_at_call 39; (with_reducible refine (checkRange2_calls (e.tones[k]) _ _ _).mono ?_); rintro e_ w1 ⟨rfl, hb_⟩; have HB_ := Lib.hid (bl_then2 (by (repeat (with_reducible first | exact HB.out | apply bl_alloc2 | apply bl_drew2 | apply bl_drewN2))) hb_); clear HB hb_; (try clear hq); have HB := HB_; clear HB_; have hq := CB.of HB.out)
      · have he : rgErr e.tones[k] 1 100000 ≠ 0 := by simpa using (show (rgErr e.tones[k] 1 100000 != 0) = true by assumption)
        go_ret
        exact ⟨ret_int (earErr_tone hA.out (firstErr_is (hk := hlt) HF.out (by rw [toneErr_rg, if_pos he]) he) he).symm, by (repeat (first | exact bl_then H0W.out HB.out | exact H0W.out | exact HB.out | exact Below.refl _ _ | refine bl_set ?_ (by assumption) _ | refine bl_alloc ?_ _ | refine bl_drew ?_ | refine bl_drewN ?_ _))⟩
      · have he : rgErr e.tones[k] 1 100000 = 0 := by simpa using (show (rgErr e.tones[k] 1 100000 != 0) = false by assumption)
        have hr := rgErr_zero he
        have hw : IntKind.i64.wrap (e.tones[k].mx - e.tones[k].mn) = e.tones[k].mx - e.tones[k].mn := IntWalk.i64_in _ (by omega)
        have HE := Lib.hid he
        clear he
        have hk0 : (0 : Int) ≤ (k : Int) := by omega
        go_quiet (fail)
        go_wp2
        · have hl : 20 < e.tones[k].mx - e.tones[k].mn := by assumption
          go_ret
          exact ⟨ret_int (earErr_tone hA.out (firstErr_is (hk := hlt) HF.out (by rw [toneErr_rg, if_neg (by simp [HE.out]), if_pos hl]) (by decide)) (by decide)).symm, by (repeat (first | exact bl_then H0W.out HB.out | exact H0W.out | exact HB.out | exact Below.refl _ _ | refine bl_set ?_ (by assumption) _ | refine bl_alloc ?_ _ | refine bl_drew ?_ | refine bl_drewN ?_ _))⟩
        · have hl : e.tones[k].mx - e.tones[k].mn ≤ 20 := by assumption
          go_roundw
          case rel => exact ⟨k + 1, hlt, by go_num, by (repeat (with_reducible first | exact HB.out | apply bl_alloc2 | apply bl_drew2 | apply bl_drewN2)), firstErr_next (hk := hlt) HF.out (by rw [toneErr_rg, if_neg (by simp [HE.out]), if_neg (by omega)])⟩
          case measure => simp [intOf]; omega
    · have hf0 := Lib.hid (firstErr_end HF.out (Nat.not_lt.1 hlt))
      go_wp2_with fail
      · go_ret
        exact ⟨ret_int (earErr_many hA.out hf0.out (by assumption)).symm, by (repeat (first | exact bl_then H0W.out HB.out | exact H0W.out | exact HB.out | exact Below.refl _ _ | refine bl_set ?_ (by assumption) _ | refine bl_alloc ?_ _ | refine bl_drew ?_ | refine bl_drewN ?_ _))⟩
      have h6 : (e.reads.length : Int) ≤ 6 := by assumption
      obtain ⟨W1, rfl⟩ : ∃ W1 : World, W1 = wr := ⟨_, rfl⟩
      go_loopw [5] (fun i wr => ∃ k : Nat, k ≤ e.reads.length ∧ i = .int .i64 k ∧ Below W.heap.size W wr ∧ firstErr (fun r => readErr r e.tones.length) e.reads = firstErr (fun r => readErr r e.tones.length) (e.reads.drop k))
        (fun i _ => e.reads.length - (intOf i).toNat)
      case atStart => exact ⟨0, Nat.zero_le _, rfl, HB.out, rfl⟩
      case round =>
        obtain ⟨k, hk, rfl, hb, hf⟩ := hrel
        have HF := Lib.hid hf
        clear HB hq
        have HB := Lib.hid hb
        clear hf hb
        have hq := CB.of HB.out
        by_cases hlt : k < e.reads.length
        · obtain ⟨b, o, rfl, hlb, hc0, hc1', hc2', hc3, hc4, hc5⟩ := h2'.out.rd k hlt
          have hlti : ((k : Int) < (e.reads.length : Int)) := by omega
          have hk0 : (0 : Int) ≤ (k : Int) := by omega
          have hR := And.intro (kg1 0) (And.intro (kg1 1) (kg1 2))
          go_wp2_with fail
          go_region_held3 (fun w' => w'.cell? ⟨g1, 1, none⟩ = some (.slice A1 e.tones.length c1) ∧ w'.cell? ⟨g1, 2, none⟩ = some (.slice (some ⟨b, o, none⟩) e.reads.length c2) ∧ w'.cell? ⟨b, o + k * 6, none⟩ = some (.int .i64 e.reads[k].kind) ∧ w'.cell? ⟨b, o + k * 6 + 1, none⟩ = some (.int .i64 e.reads[k].a) ∧ w'.cell? ⟨b, o + k * 6 + 2, none⟩ = some (.int .i64 e.reads[k].b) ∧
              w'.cell? ⟨b, o + k * 6 + 3, none⟩ = some (.int .i64 e.reads[k].secs) ∧ w'.cell? ⟨b, o + k * 6 + 4, none⟩ = some (.int .i64 e.reads[k].shown.mn) ∧ w'.cell? ⟨b, o + k * 6 + 5, none⟩ = some (.int .i64 e.reads[k].shown.mx))
            (first | exact ⟨(hq.1 _ _ lg1).trans hR.2.1, (hq.1 _ _ lg1).trans hR.2.2, (hq.1 _ _ hlb).trans hc0, (hq.1 _ _ hlb).trans hc1', (hq.1 _ _ hlb).trans hc2', (hq.1 _ _ hlb).trans hc3, (hq.1 _ _ hlb).trans hc4, (hq.1 _ _ hlb).trans hc5⟩ | exact ⟨((CB.of (bl_drew HB.out)).1 _ _ lg1).trans hR.2.1, ((CB.of (bl_drew HB.out)).1 _ _ lg1).trans hR.2.2, ((CB.of (bl_drew HB.out)).1 _ _ hlb).trans hc0, ((CB.of (bl_drew HB.out)).1 _ _ hlb).trans hc1', ((CB.of (bl_drew HB.out)).1 _ _ hlb).trans hc2', ((CB.of (bl_drew HB.out)).1 _ _ hlb).trans hc3, ((CB.of (bl_drew HB.out)).1 _ _ hlb).trans hc4, ((CB.of (bl_drew HB.out)).1 _ _ hlb).trans hc5⟩ | exact ⟨((CB.of (bl_alloc HB.out _)).1 _ _ lg1).trans hR.2.1, ((CB.of (bl_alloc HB.out _)).1 _ _ lg1).trans hR.2.2, ((CB.of (bl_alloc HB.out _)).1 _ _ hlb).trans hc0, ((CB.of (bl_alloc HB.out _)).1 _ _ hlb).trans hc1', ((CB.of (bl_alloc HB.out _)).1 _ _ hlb).trans hc2', ((CB.of (bl_alloc HB.out _)).1 _ _ hlb).trans hc3, ((CB.of (bl_alloc HB.out _)).1 _ _ hlb).trans hc4, ((CB.of (bl_alloc HB.out _)).1 _ _ hlb).trans hc5⟩ | exact ⟨((CB.of (bl_alloc (bl_alloc HB.out _) _)).1 _ _ lg1).trans hR.2.1, ((CB.of (bl_alloc (bl_alloc HB.out _) _)).1 _ _ lg1).trans hR.2.2, ((CB.of (bl_alloc (bl_alloc HB.out _) _)).1 _ _ hlb).trans hc0, ((CB.of (bl_alloc (bl_alloc HB.out _) _)).1 _ _ hlb).trans hc1', ((CB.of (bl_alloc (bl_alloc HB.out _) _)).1 _ _ hlb).trans hc2', ((CB.of (bl_alloc (bl_alloc HB.out _) _)).1 _ _ hlb).trans hc3, ((CB.of (bl_alloc (bl_alloc HB.out _) _)).1 _ _ hlb).trans hc4, ((CB.of (bl_alloc (bl_alloc HB.out _) _)).1 _ _ hlb).trans hc5⟩ | go_keep)
            (first | (go_at_call 40; (with_reducible refine (checkReading2_calls (e.reads[k]) _ _ (by omega)).mono ?_); rintro e_ w1 ⟨rfl, hb_⟩; have HB_ := Lib.hid (bl_then2 (by (repeat (with_reducible first | exact HB.out | apply bl_alloc2 | apply bl_drew2 | apply bl_drewN2))) hb_); clear HB hb_; (try clear hq); have HB := HB_; clear HB_; have hq := CB.of HB.out))
          go_wp2
          · go_ret
            exact ⟨ret_int (earErr_reads hA.out hf0.out h6 (firstErr_is (hk := hlt) HF.out rfl (by simpa using (show (readErr e.reads[k] e.tones.length != 0) = true by assumption)))).symm, by (repeat (first | exact bl_then H0W.out HB.out | exact H0W.out | exact HB.out | exact Below.refl _ _ | refine bl_set ?_ (by assumption) _ | refine bl_alloc ?_ _ | refine bl_drew ?_ | refine bl_drewN ?_ _))⟩
          · go_roundw
            case rel => exact ⟨k + 1, hlt, by go_num, HB.out, firstErr_next (hk := hlt) HF.out (by simpa using (show (readErr e.reads[k] e.tones.length != 0) = false by assumption))⟩
            case measure => simp [intOf]; omega
        · go_wp2_with fail
          go_ret
          exact ⟨ret_int (earErr_reads hA.out hf0.out h6 (firstErr_end HF.out (Nat.not_lt.1 hlt))).symm, by (repeat (first | exact bl_then H0W.out HB.out | exact H0W.out | exact HB.out | exact Below.refl _ _ | refine bl_set ?_ (by assumption) _ | refine bl_alloc ?_ _ | refine bl_drew ?_ | refine bl_drewN ?_ _))⟩

end Go.Proofs.Ytnclljamcfoolaa
