/- Walks of package voice: the checks of a box, the beat of a pair. -/
import Derived.Test.YtnclljamcfoolaaVoice3
namespace Go.Proofs.Ytnclljamcfoolaa
open Go.RowKit
set_option linter.unusedVariables false

set_option maxRecDepth 100000 in
set_option maxHeartbeats 1000000 in
theorem voiceCheck_calls (b : Box) (A1 A2 : Option Addr) (c1 c2 : Nat) (w : World) (h1 : Row Snd.cs 4 w A1 b.lows) (h2 : Row Snd.cs 4 w A2 b.highs) (hm1 : b.lows.length ≤ 1000000000000000) (hm2 : b.highs.length ≤ 1000000000000000) :
    Calls Try.prog 78 #[b.v A1 c1 A2 c2] w fun e w' => e = .returned (.int .i64 (boxErr b)) ∧ Below w.heap.size w w' := by
  have hw := Lib.hid (due_wrap (b := b))
  unfold Box.v
  go_enter Try.func78, Try.ntmps78
  go_upto_region 1 with (fail)
  generalize hW : w.alloc _ = W
  generalize h1_ : w.heap.size = g1
  obtain ⟨hB0_, Hg1, kg1, fg1, lg1, bg1⟩ := gen1 w _ _ hW h1_
  clear hW h1_
  have H0W := Lib.hid hB0_
  clear hB0_
  have HHg1 := Lib.hid Hg1
  clear Hg1
  have HB := Lib.hid (Below.refl W.heap.size W)
  have HR1 := Lib.hid (h1.below H0W.out)
  have HR2 := Lib.hid (h2.below H0W.out)
  clear h1 h2
  go_wp2_with (first
    | ((with_reducible refine ld_gate 30 rfl ?_); refine wpList_load_row rfl 30 _ rfl g1 rfl 30 _ (0, 0) _ ((HB.out.block _ lg1).trans HHg1.out) Try.underlying30 rfl size30 ?_)
    | (go_at_call 98; (with_reducible refine (law5_calls b.law _).mono ?_); rintro e_ w1 ⟨rfl, hb_⟩; have HB_ := Lib.hid (bl_then2 (by (repeat (with_reducible first | exact HB.out | apply bl_alloc2 | apply bl_drew2 | apply bl_drewN2))) hb_); clear HB hb_; (try clear hq); have HB := HB_; clear HB_; have hq := CB.of HB.out)
    | (go_at_call 99; (with_reducible refine (due5_calls b.law _ _).mono ?_); rintro e_ w1 ⟨rfl, hb_⟩; have HB_ := Lib.hid (bl_then2 (by (repeat (with_reducible first | exact HB.out | apply bl_alloc2 | apply bl_drew2 | apply bl_drewN2))) hb_); clear HB hb_; (try clear hq); have HB := HB_; clear HB_; have hq := CB.of HB.out)
    | (go_at_call 79; (with_reducible refine (within5_calls _ _ _ _).mono ?_); rintro e_ w1 ⟨rfl, rfl⟩)
    | (go_at_call 100; (with_reducible refine (checkSounds5_calls b.lows _ _ _ _ _ (HR1.out.below HB.out) rfl hm1).mono ?_); rintro e_ w1 ⟨rfl, hb_⟩; have HB_ := Lib.hid (bl_then2 (by (repeat (with_reducible first | exact HB.out | apply bl_alloc2 | apply bl_drew2 | apply bl_drewN2))) hb_); clear HB hb_; (try clear hq); have HB := HB_; clear HB_; have hq := CB.of HB.out)
    | (go_at_call 100; (with_reducible refine (checkSounds5_calls b.highs _ _ _ _ _ (HR2.out.below HB.out) rfl hm2).mono ?_); rintro e_ w1 ⟨rfl, hb_⟩; have HB_ := Lib.hid (bl_then2 (by (repeat (with_reducible first | exact HB.out | apply bl_alloc2 | apply bl_drew2 | apply bl_drewN2))) hb_); clear HB hb_; (try clear hq); have HB := HB_; clear HB_; have hq := CB.of HB.out)
    | (go_at_call 101; refine (blank5_calls b _ _ _ _ _).mono ?_; rintro e_ w1 ⟨rfl, hb_⟩; have HB_ := Lib.hid (bl_then2 (by (repeat (with_reducible first | exact HB.out | apply bl_alloc2 | apply bl_drew2 | apply bl_drewN2))) hb_); clear HB hb_; (try clear hq); have HB := HB_; clear HB_; have hq := CB.of HB.out)
    | (go_at_call 58; refine (reedCheck_calls (blankOf b) _ _ _ (.inl rfl) (by simp [blankOf])).mono ?_; rintro e_ w1 ⟨rfl, hb_⟩; have HB_ := Lib.hid (bl_then2 (by (repeat (with_reducible first | exact HB.out | apply bl_alloc2 | apply bl_drew2 | apply bl_drewN2))) hb_); clear HB hb_; (try clear hq); have HB := HB_; clear HB_; have hq := CB.of HB.out))
  all_goals (go_ret; refine ⟨ret_int ?_, by (repeat (first | exact bl_then H0W.out HB.out | exact H0W.out | exact HB.out | exact Below.refl _ _ | refine bl_set ?_ (by assumption) _ | refine bl_alloc ?_ _ | refine bl_drew ?_ | refine bl_drewN ?_ _))⟩; go_tidy; have hw' := hw.out; clear hw; unfold boxErr orE; simp_all)

def pairErr (b : Box) (i k : Int) : Int := orE (boxErr b) (if inB i 0 (b.lows.length - 1) = false then 3 else if inB k 0 (b.highs.length - 1) = false then 3 else 0)

set_option maxRecDepth 100000 in
set_option maxHeartbeats 1000000 in
theorem checkPair5_calls (b : Box) (A1 A2 : Option Addr) (c1 c2 : Nat) (i k : Int) (w : World) (h1 : Row Snd.cs 4 w A1 b.lows) (h2 : Row Snd.cs 4 w A2 b.highs) (hm1 : b.lows.length ≤ 1000000000000000) (hm2 : b.highs.length ≤ 1000000000000000) :
    Calls Try.prog 36 #[b.v A1 c1 A2 c2, .int .i64 i, .int .i64 k] w fun e w' => e = .returned (.int .i64 (pairErr b i k)) ∧ Below w.heap.size w w' := by
  go_enter Try.func36, Try.ntmps36
  go_upto_region 1 with (fail)
  generalize hW : w.alloc _ = W
  generalize h1_ : w.heap.size = g1
  obtain ⟨hB0_, Hg1, kg1, fg1, lg1, bg1⟩ := gen1 w _ _ hW h1_
  clear hW h1_
  have H0W := Lib.hid hB0_
  clear hB0_
  have HHg1 := Lib.hid Hg1
  clear Hg1
  have HB := Lib.hid (Below.refl W.heap.size W)
  have HR1 := Lib.hid (h1.below H0W.out)
  have HR2 := Lib.hid (h2.below H0W.out)
  clear h1 h2
  go_wp2_with (first
    | ((with_reducible refine ld_gate 30 rfl ?_); refine wpList_load_row rfl 30 _ rfl g1 rfl 30 _ (0, 0) _ ((HB.out.block _ lg1).trans HHg1.out) Try.underlying30 rfl size30 ?_)
    | (go_at_call 78; refine (voiceCheck_calls b _ _ _ _ _ (HR1.out.below HB.out) (HR2.out.below HB.out) hm1 hm2).mono ?_; rintro e_ w1 ⟨rfl, hb_⟩; have HB_ := Lib.hid (bl_then2 (by (repeat (with_reducible first | exact HB.out | apply bl_alloc2 | apply bl_drew2 | apply bl_drewN2))) hb_); clear HB hb_; (try clear hq); have HB := HB_; clear HB_; have hq := CB.of HB.out)
    | (go_at_call 79; (with_reducible refine (within5_calls _ _ _ _).mono ?_); rintro e_ w1 ⟨rfl, rfl⟩))
  all_goals (go_ret; refine ⟨ret_int ?_, by (repeat (first | exact bl_then H0W.out HB.out | exact H0W.out | exact HB.out | exact Below.refl _ _ | refine bl_set ?_ (by assumption) _ | refine bl_alloc ?_ _ | refine bl_drew ?_ | refine bl_drewN ?_ _))⟩; go_tidy; unfold pairErr orE; simp_all)

theorem boxErr_zero {b : Box} (h : boxErr b = 0) : lawErr b.law = 0 ∧ sndsErr b.lows 4 = 0 ∧ sndsErr b.highs 5 = 0 := by
  unfold boxErr orE at h
  (repeat' split at h) <;> simp_all
theorem sndErr_zero {s : Snd} (h : sndErr s = 0) : (-30 ≤ s.tone.mn ∧ s.tone.mn ≤ 30 ∧ -30 ≤ s.tone.mx ∧ s.tone.mx ≤ 30 ∧ s.tone.mn ≤ s.tone.mx) ∧ (-3 ≤ s.slope.mn ∧ s.slope.mn ≤ 3 ∧ -3 ≤ s.slope.mx ∧ s.slope.mx ≤ 3 ∧ s.slope.mn ≤ s.slope.mx) := by
  unfold sndErr orE at h
  split at h
  · next h1 => exact ⟨rgErr_zero h1, rgErr_zero h⟩
  · next h1 => exact absurd h h1
theorem sndsErr_at {l : List Snd} {m : Int} (h : sndsErr l m = 0) (k : Nat) (hk : k < l.length) : sndErr l[k] = 0 := by
  unfold sndsErr at h
  split at h
  · cases h
  · exact (firstErr_zero _ _).1 h _ (List.getElem_mem hk)
def beatsOf (b : Box) (i k : Nat) (hi : i < b.lows.length) (hk : k < b.highs.length) (n : Nat) : List Rg :=
  beatsUp b.lows[i].tone.mn b.lows[i].tone.mx b.lows[i].slope.mn b.lows[i].slope.mx b.highs[k].tone.mn b.highs[k].tone.mx b.highs[k].slope.mn b.highs[k].slope.mx n

set_option maxRecDepth 100000 in
set_option maxHeartbeats 2000000 in
theorem Beat_calls (b : Box) (A1 A2 : Option Addr) (c1 c2 : Nat) (i k : Nat) (hi : i < b.lows.length) (hk : k < b.highs.length) (P : Nat) (hP : b.law.press = P) (hb : boxErr b = 0) (w : World) (h1 : Row Snd.cs 4 w A1 b.lows) (h2 : Row Snd.cs 4 w A2 b.highs) (hm1 : b.lows.length ≤ 1000000000000000) (hm2 : b.highs.length ≤ 1000000000000000) :
    Calls Try.prog 8 #[b.v A1 c1 A2 c2, .int .i64 i, .int .i64 k] w fun e w' => ∃ v, e = .returned (.tuple #[v, .int .i64 0]) ∧ w'.ownsRow w.heap.size 26 2 v (P + 1) (flat Rg.cs (beatsOf b i k hi hk (P + 1))) ∧ Below w.heap.size w w' := by
  have hp : pairErr b i k = 0 := by unfold pairErr orE; rw [if_pos hb]; simp [inB_false]; omega
  have hl := lawErr_zero (boxErr_zero hb).1
  have s1 := sndErr_zero (sndsErr_at (boxErr_zero hb).2.1 i hi)
  have s2 := sndErr_zero (sndsErr_at (boxErr_zero hb).2.2 k hk)
  have hPb : P ≤ 3 := by omega
  have HP := Lib.hid hP
  clear hP
  have HC := Lib.hid (checkPair5_calls b A1 A2 c1 c2 i k)
  rw [hp] at HC
  have i0 : (0 : Int) ≤ (i : Int) := by omega
  have k0 : (0 : Int) ≤ (k : Int) := by omega
  have i1 : (i : Int) < (b.lows.length : Int) := by omega
  have k1 : (k : Int) < (b.highs.length : Int) := by omega
  go_enter Try.func8, Try.ntmps8
  go_upto_region 1 with (fail)
  generalize hW : w.alloc _ = W
  generalize h1_ : w.heap.size = g1
  obtain ⟨hB0_, Hg1, kg1, fg1, lg1, bg1⟩ := gen1 w _ _ hW h1_
  clear hW h1_
  have H0W := Lib.hid hB0_
  clear hB0_
  have HHg1 := Lib.hid Hg1
  clear Hg1
  have HB := Lib.hid (Below.refl W.heap.size W)
  have HR1 := Lib.hid (h1.below H0W.out)
  have HR2 := Lib.hid (h2.below H0W.out)
  clear h1 h2
  go_wp2_with (first
    | ((with_reducible refine ld_gate 30 rfl ?_); refine wpList_load_row rfl 30 _ rfl g1 rfl 30 _ (0, 0) _ ((HB.out.block _ lg1).trans HHg1.out) Try.underlying30 rfl size30 ?_)
    | (go_at_call 36; refine (HC.out _ (HR1.out.below HB.out) (HR2.out.below HB.out) hm1 hm2).mono ?_; rintro e_ w1 ⟨rfl, hb_⟩; have HB_ := Lib.hid (bl_then2 (by (repeat (with_reducible first | exact HB.out | apply bl_alloc2 | apply bl_drew2 | apply bl_drewN2))) hb_); clear HB hb_; (try clear hq); have HB := HB_; clear HB_; have hq := CB.of HB.out))
  obtain ⟨B1, o1, rfl, hlb1, a0, a1, a2, a3⟩ := HR1.out.snd i hi
  obtain ⟨B2, o2, rfl, hlb2, d0, d1, d2, d3⟩ := HR2.out.snd k hk
  go_region_held3 (fun w' => (∀ j, w'.cell? ⟨g1, j, none⟩ = #[Value.int IntKind.i64 b.law.first, Value.int IntKind.i64 b.law.step, Value.int IntKind.i64 b.law.span, Value.int IntKind.i64 b.law.press, Value.int IntKind.i64 b.note, Value.slice (some ⟨B1, o1, none⟩) b.lows.length c1, Value.slice (some ⟨B2, o2, none⟩) b.highs.length c2, Value.int IntKind.i64 b.tip.mn, Value.int IntKind.i64 b.tip.mx, Value.int IntKind.i64 b.root.mn, Value.int IntKind.i64 b.root.mx, Value.int IntKind.i64 b.f.up.mn, Value.int IntKind.i64 b.f.up.mx, Value.int IntKind.i64 b.f.down.mn, Value.int IntKind.i64 b.f.down.mx, Value.int IntKind.i64 b.f.tipw.mn, Value.int IntKind.i64 b.f.tipw.mx, Value.int IntKind.i64 b.f.rootw.mn, Value.int IntKind.i64 b.f.rootw.mx, Value.int IntKind.i64 b.f.least, Value.int IntKind.i64 b.meter][j]?) ∧ w'.cell? ⟨B1, o1 + i * 4, none⟩ = some (.int .i64 b.lows[i].tone.mn) ∧ w'.cell? ⟨B1, o1 + i * 4 + 1, none⟩ = some (.int .i64 b.lows[i].tone.mx) ∧ w'.cell? ⟨B1, o1 + i * 4 + 2, none⟩ = some (.int .i64 b.lows[i].slope.mn) ∧ w'.cell? ⟨B1, o1 + i * 4 + 3, none⟩ = some (.int .i64 b.lows[i].slope.mx) ∧ w'.cell? ⟨B2, o2 + k * 4, none⟩ = some (.int .i64 b.highs[k].tone.mn) ∧ w'.cell? ⟨B2, o2 + k * 4 + 1, none⟩ = some (.int .i64 b.highs[k].tone.mx) ∧ w'.cell? ⟨B2, o2 + k * 4 + 2, none⟩ = some (.int .i64 b.highs[k].slope.mn) ∧ w'.cell? ⟨B2, o2 + k * 4 + 3, none⟩ = some (.int .i64 b.highs[k].slope.mx))
    (first | exact ⟨fun j => (hq.1 _ j lg1).trans (kg1 j), (hq.1 _ _ hlb1).trans a0, (hq.1 _ _ hlb1).trans a1, (hq.1 _ _ hlb1).trans a2, (hq.1 _ _ hlb1).trans a3, (hq.1 _ _ hlb2).trans d0, (hq.1 _ _ hlb2).trans d1, (hq.1 _ _ hlb2).trans d2, (hq.1 _ _ hlb2).trans d3⟩ | exact ⟨fun j => ((CB.of (bl_drew HB.out)).1 _ j lg1).trans (kg1 j), ((CB.of (bl_drew HB.out)).1 _ _ hlb1).trans a0, ((CB.of (bl_drew HB.out)).1 _ _ hlb1).trans a1, ((CB.of (bl_drew HB.out)).1 _ _ hlb1).trans a2, ((CB.of (bl_drew HB.out)).1 _ _ hlb1).trans a3, ((CB.of (bl_drew HB.out)).1 _ _ hlb2).trans d0, ((CB.of (bl_drew HB.out)).1 _ _ hlb2).trans d1, ((CB.of (bl_drew HB.out)).1 _ _ hlb2).trans d2, ((CB.of (bl_drew HB.out)).1 _ _ hlb2).trans d3⟩ | exact ⟨fun j => ((CB.of (bl_alloc HB.out _)).1 _ j lg1).trans (kg1 j), ((CB.of (bl_alloc HB.out _)).1 _ _ hlb1).trans a0, ((CB.of (bl_alloc HB.out _)).1 _ _ hlb1).trans a1, ((CB.of (bl_alloc HB.out _)).1 _ _ hlb1).trans a2, ((CB.of (bl_alloc HB.out _)).1 _ _ hlb1).trans a3, ((CB.of (bl_alloc HB.out _)).1 _ _ hlb2).trans d0, ((CB.of (bl_alloc HB.out _)).1 _ _ hlb2).trans d1, ((CB.of (bl_alloc HB.out _)).1 _ _ hlb2).trans d2, ((CB.of (bl_alloc HB.out _)).1 _ _ hlb2).trans d3⟩ | exact ⟨fun j => ((CB.of (bl_alloc (bl_alloc HB.out _) _)).1 _ j lg1).trans (kg1 j), ((CB.of (bl_alloc (bl_alloc HB.out _) _)).1 _ _ hlb1).trans a0, ((CB.of (bl_alloc (bl_alloc HB.out _) _)).1 _ _ hlb1).trans a1, ((CB.of (bl_alloc (bl_alloc HB.out _) _)).1 _ _ hlb1).trans a2, ((CB.of (bl_alloc (bl_alloc HB.out _) _)).1 _ _ hlb1).trans a3, ((CB.of (bl_alloc (bl_alloc HB.out _) _)).1 _ _ hlb2).trans d0, ((CB.of (bl_alloc (bl_alloc HB.out _) _)).1 _ _ hlb2).trans d1, ((CB.of (bl_alloc (bl_alloc HB.out _) _)).1 _ _ hlb2).trans d2, ((CB.of (bl_alloc (bl_alloc HB.out _) _)).1 _ _ hlb2).trans d3⟩ | go_keep)
    (first | (go_at_call 37; rw [HP.out]; refine (beats_calls _ _ _ P _ _ _ _ _ _ _ _ _ (by omega) (by omega) (by omega)).mono ?_; rintro e_ w1 ⟨v, rfl, hown, hb_⟩; have HO := Lib.hid hown; have hsz := HB.out.size; clear hown; have HB_ := Lib.hid (bl_then2 (by (repeat (with_reducible first | exact HB.out | apply bl_alloc2 | apply bl_drew2 | apply bl_drewN2))) hb_); clear HB; (try clear hq); have HB := HB_; clear HB_; have hq := CB.of HB.out))
  go_wp2
  go_ret2
  exact ⟨v, rfl, own_weaken HO.out (Nat.le_trans H0W.out.size hsz), by (repeat (first | exact bl_then H0W.out HB.out | exact H0W.out | exact HB.out | exact Below.refl _ _ | refine bl_set ?_ (by assumption) _ | refine bl_alloc ?_ _ | refine bl_drew ?_ | refine bl_drewN ?_ _))⟩

end Go.Proofs.Ytnclljamcfoolaa
