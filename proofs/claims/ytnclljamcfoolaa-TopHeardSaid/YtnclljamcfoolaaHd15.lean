/- Walk of musettetop.TopHeard: it returns true. How the given data are opened: structs of whole numbers, and slices of them. How a box is opened: its numbers, and its two rows of sounds. How a job, an ear and a reading are opened. -/
import Derived.Test.YtnclljamcfoolaaHd11
import Derived.Test.YtnclljamcfoolaaHd14
import Derived.Test.YtnclljamcfoolaaHd1
import Derived.Deep.Slices
import Derived.SizedLaws
import Derived.KernelRfl
namespace Go.Proofs.Ytnclljamcfoolaa
open Go.RowKit Go.Shelf Go.Maps
set_option linter.unusedVariables false
set_option linter.unusedSimpArgs false

theorem size53 : (Try.prog.info? 53).map (·.size) = some 6 := by kernel_rfl

set_option maxRecDepth 100000 in
set_option maxHeartbeats 4000000 in
theorem topHeard_bad (j : Job) (A : Option Addr) (c : Nat) (e : Ear) (A1 A2 : Option Addr) (c1 c2 : Nat) (r : Rd) (due : Int) (w : World) (h1 : Row Rg.cs 2 w A1 e.tones) (h2 : Row Rd.cs 6 w A2 e.reads) (hm1 : e.tones.length ≤ 1000000000000000) (hm2 : e.reads.length ≤ 1000000000000000) (hbad : ¬ earErr e = 0 ∨ due < 1 ∨ 100000 < due ∨ e.tones.length ≠ 1) :
    Calls Try.prog 4 #[j.v A c, .agg #[.int .i64 e.slack, .slice A1 e.tones.length c1, .slice A2 e.reads.length c2], r.v, .int .i64 due] w fun ed w' => ed = .returned (.bool true) ∧ Below w.heap.size w w' := by
  have hA := Lib.hid heardAwake_calls
  have HC := Lib.hid (ref2Check_calls e A1 A2 c1 c2)
  go_enter Try.func4, Try.ntmps4
  go_upto_region 1 with (fail)
  generalize hW : ((w.alloc _).alloc _).alloc _ = W
  generalize h3_ : w.heap.size + 1 + 1 = g3
  generalize h2_ : w.heap.size + 1 = g2
  generalize h1_ : w.heap.size = g1
  obtain ⟨hB0_, Hg1, Hg2, Hg3, kg1, kg2, kg3, fg1, fg2, fg3, lg1, lg2, lg3, bg1, bg2, bg3, ng12, ng13, ng21, ng23, ng31, ng32⟩ := gen3 w _ _ _ _ _ _ hW h3_ h2_ h1_
  clear hW h1_ h2_ h3_
  have H0W := Lib.hid hB0_
  clear hB0_
  have HHg1 := Lib.hid Hg1
  have HHg2 := Lib.hid Hg2
  have HHg3 := Lib.hid Hg3
  clear Hg1 Hg2 Hg3
  have HB := Lib.hid (Below.refl W.heap.size W)
  have HR1 := Lib.hid (h1.below H0W.out)
  have HR2 := Lib.hid (h2.below H0W.out)
  clear h1 h2
  go_upto_if 41 with (first
    | ((with_reducible refine ld_gate 41 rfl ?_); refine wpList_load_row rfl 41 _ rfl g2 rfl 41 _ (0, 0) _ ((HB.out.block _ lg2).trans HHg2.out) Try.underlying41 rfl size41 ?_)
    | (go_at_call 9; refine (HC.out _ (HR1.out.below HB.out) (HR2.out.below HB.out) hm1 hm2).mono ?_; rintro e_ w1 ⟨rfl, hb_⟩; have HB_ := Lib.hid (bl_then2 (by (repeat (with_reducible first | exact HB.out | apply bl_alloc2 | apply bl_drew2 | apply bl_drewN2))) hb_); clear HB hb_; (try clear hq); have HB := HB_; clear HB_; have hq := CB.of HB.out))
  all_goals go_wp2_with (go_at_call 12; refine (hA.out _).mono ?_; rintro e_ w2 ⟨rfl, hb_⟩; have HB_ := Lib.hid (bl_then2 (by (repeat (with_reducible first | exact HB.out | apply bl_alloc2 | apply bl_drew2 | apply bl_drewN2))) hb_); clear HB hb_; (try clear hq); have HB := HB_; clear HB_; have hq := CB.of HB.out)
  all_goals (first | (go_ret; exact ⟨rfl, by (repeat (first | exact bl_then H0W.out HB.out | exact H0W.out | exact HB.out | exact Below.refl _ _ | refine bl_set ?_ (by assumption) _ | refine bl_alloc ?_ _ | refine bl_drew ?_ | refine bl_drewN ?_ _))⟩) | (exfalso; clear K; simp_all; done) | (exfalso; simp_all; omega))

set_option maxRecDepth 100000 in
set_option maxHeartbeats 4000000 in
theorem topHeard_err (j : Job) (A : Option Addr) (c : Nat) (slack : Int) (x : Rg) (ls : List Ct) (r : Rd) (due : Int) (hd : 1 ≤ due ∧ due ≤ 100000) (hl6 : ls.length ≤ 6) (he : earErr (earC slack x ls) = 0) (b o c1 : Nat) (A2 : Option Addr) (c2 : Nat) (w : World) (h1 : Row Rg.cs 2 w (some ⟨b, o, none⟩) [x]) (h2 : Row Rd.cs 6 w A2 (ls.map Ct.rd)) (E : Int) (hE0 : E ≠ 0)
    (H13 : ∀ w, Row Rg.cs 2 w (some ⟨b, o, none⟩) [x] → Row Rd.cs 6 w A2 (ls.map Ct.rd) → Calls Try.prog 13 #[.agg #[.int .i64 slack, .slice (some ⟨b, o, none⟩) 1 c1, .slice A2 ls.length c2], r.v] w fun ed w' => ed = .returned (.tuple #[ear0, .int .i64 E]) ∧ Below w.heap.size w w')
    (H14 : ∀ w, Row Rg.cs 2 w (some ⟨b, o, none⟩) [x] → Row Rd.cs 6 w A2 (ls.map Ct.rd) → Calls Try.prog 14 #[.agg #[.int .i64 slack, .slice (some ⟨b, o, none⟩) 1 c1, .slice A2 ls.length c2], r.v] w fun ed w' => ed = .returned (.tuple #[ear0, .int .i64 E]) ∧ Below w.heap.size w w') :
    Calls Try.prog 4 #[j.v A c, .agg #[.int .i64 slack, .slice (some ⟨b, o, none⟩) 1 c1, .slice A2 ls.length c2], r.v, .int .i64 due] w fun ed w' => ed = .returned (.bool true) ∧ Below w.heap.size w w' := by
  have K13 := Lib.hid H13
  have K14 := Lib.hid H14
  have hA := Lib.hid heardAwake_calls
  have hEb : (E != 0) = true := by simpa using hE0
  clear H13 H14
  have hC := Lib.hid (ref2Check_calls (earC slack x ls) (some ⟨b, o, none⟩) A2 c1 c2)
  rw [he] at hC
  simp only [earC, List.length_map, List.length_cons, List.length_nil, Nat.zero_add] at hC
  have t1 : decide (due < 1) = false := by simp; omega
  have t2 : decide (100000 < due) = false := by simp; omega
  go_enter Try.func4, Try.ntmps4
  go_upto_region 1 with (fail)
  generalize hW : ((w.alloc _).alloc _).alloc _ = W
  generalize h3_ : w.heap.size + 1 + 1 = g3
  generalize h2_ : w.heap.size + 1 = g2
  generalize h1_ : w.heap.size = g1
  obtain ⟨hB0_, Hg1, Hg2, Hg3, kg1, kg2, kg3, fg1, fg2, fg3, lg1, lg2, lg3, bg1, bg2, bg3, ng12, ng13, ng21, ng23, ng31, ng32⟩ := gen3 w _ _ _ _ _ _ hW h3_ h2_ h1_
  clear hW h1_ h2_ h3_
  have H0W := Lib.hid hB0_
  clear hB0_
  have HHg1 := Lib.hid Hg1
  have HHg2 := Lib.hid Hg2
  have HHg3 := Lib.hid Hg3
  clear Hg1 Hg2 Hg3
  have HB := Lib.hid (Below.refl W.heap.size W)
  have HR1 := Lib.hid (h1.below H0W.out)
  have HR2 := Lib.hid (h2.below H0W.out)
  clear h1 h2
  go_upto_region 4 with (first
    | ((with_reducible refine ld_gate 41 rfl ?_); refine wpList_load_row rfl 41 _ rfl g2 rfl 41 _ (0, 0) _ ((HB.out.block _ lg2).trans HHg2.out) Try.underlying41 rfl size41 ?_)
    | ((with_reducible refine ld_gate 53 rfl ?_); refine wpList_load_row rfl 53 _ rfl g3 rfl 53 _ (0, 0) _ ((HB.out.block _ lg3).trans HHg3.out) Try.underlying53 rfl size53 ?_)
    | ((with_reducible refine ld_gate 51 rfl ?_); refine wpList_load_row rfl 51 _ rfl g1 rfl 51 _ (0, 0) _ ((HB.out.block _ lg1).trans HHg1.out) Try.underlying51 rfl size51j ?_)
    | (go_at_call 9; refine (hC.out _ (HR1.out.below HB.out) (HR2.out.below HB.out) (by omega) (by omega)).mono ?_; rintro e_ w1 ⟨rfl, hb_⟩; have HB_ := Lib.hid (bl_then2 (by (repeat (with_reducible first | exact HB.out | apply bl_alloc2 | apply bl_drew2 | apply bl_drewN2))) hb_); clear HB hb_; (try clear hq); have HB := HB_; clear HB_; have hq := CB.of HB.out)
    | ((with_reducible refine st_gate 41 rfl ?_); refine wpList_store_row rfl 41 _ _ rfl _ _ rfl rfl 41 _ (heap_alloc_at _ _ _ rfl) size41 (by simp) (by simp [Value.oneCell']) ?_)
    | ((with_reducible refine st_gate 51 rfl ?_); refine wpList_store_row rfl 51 _ _ rfl _ _ rfl rfl 51 _ (heap_alloc_at _ _ _ rfl) size51j (by simp) (by simp [Value.oneCell']) ?_)
    | (go_at_call 13; refine (K13.out _ (HR1.out.below HB.out) (HR2.out.below HB.out)).mono ?_; rintro e_ w2 ⟨rfl, hb_⟩; have HB_ := Lib.hid (bl_then2 (by (repeat (with_reducible first | exact HB.out | apply bl_alloc2 | apply bl_drew2 | apply bl_drewN2))) hb_); clear HB hb_; (try clear hq); have HB := HB_; clear HB_; have hq := CB.of HB.out))
  generalize hg_ : (World.heap (w2)).size = g4
  generalize hX_ : ((w2).alloc _).setRow g4 _ = X
  have HHg4 := Lib.hid (hX_ ▸ setRow_heap (heap_alloc_at (w2) _ g4 hg_.symm))
  have hbx_ : Below (World.heap (w2)).size (w2) (X) := hX_ ▸ bl_setRow (bl_alloc (Below.refl _ _) _) (Nat.le_of_eq hg_) _
  have HB_ := Lib.hid (bl_then HB.out hbx_)
  have lg4 : g4 < (X).heap.size := (Array.getElem?_eq_some_iff.1 HHg4.out).1
  clear hX_ hg_ HB
  try clear hq
  have HB := HB_
  clear HB_
  go_upto_region 5 with (first
    | ((with_reducible refine ld_gate 41 rfl ?_); refine wpList_load_row rfl 41 _ rfl g2 rfl 41 _ (0, 0) _ ((HB.out.block _ lg2).trans HHg2.out) Try.underlying41 rfl size41 ?_)
    | ((with_reducible refine ld_gate 53 rfl ?_); refine wpList_load_row rfl 53 _ rfl g3 rfl 53 _ (0, 0) _ ((HB.out.block _ lg3).trans HHg3.out) Try.underlying53 rfl size53 ?_)
    | ((with_reducible refine ld_gate 51 rfl ?_); refine wpList_load_row rfl 51 _ rfl g1 rfl 51 _ (0, 0) _ ((HB.out.block _ lg1).trans HHg1.out) Try.underlying51 rfl size51j ?_)
    | (go_at_call 9; refine (hC.out _ (HR1.out.below HB.out) (HR2.out.below HB.out) (by omega) (by omega)).mono ?_; rintro e_ w1 ⟨rfl, hb_⟩; have HB_ := Lib.hid (bl_then2 (by (repeat (with_reducible first | exact HB.out | apply bl_alloc2 | apply bl_drew2 | apply bl_drewN2))) hb_); clear HB hb_; (try clear hq); have HB := HB_; clear HB_; have hq := CB.of HB.out)
    | ((with_reducible refine st_gate 41 rfl ?_); refine wpList_store_row rfl 41 _ _ rfl _ _ rfl rfl 41 _ (heap_alloc_at _ _ _ rfl) size41 (by simp) (by simp [Value.oneCell']) ?_)
    | ((with_reducible refine st_gate 51 rfl ?_); refine wpList_store_row rfl 51 _ _ rfl _ _ rfl rfl 51 _ (heap_alloc_at _ _ _ rfl) size51j (by simp) (by simp [Value.oneCell']) ?_)
    | (go_at_call 14; refine (K14.out _ (HR1.out.below HB.out) (HR2.out.below HB.out)).mono ?_; rintro e_ w3 ⟨rfl, hb_⟩; have HB_ := Lib.hid (bl_then2 (by (repeat (with_reducible first | exact HB.out | apply bl_alloc2 | apply bl_drew2 | apply bl_drewN2))) hb_); clear HB hb_; (try clear hq); have HB := HB_; clear HB_; have hq := CB.of HB.out))
  generalize hg_ : (World.heap (w3)).size = g5
  generalize hX_ : ((w3).alloc _).setRow g5 _ = Y
  have HHg5 := Lib.hid (hX_ ▸ setRow_heap (heap_alloc_at (w3) _ g5 hg_.symm))
  have hbx_ : Below (World.heap (w3)).size (w3) (Y) := hX_ ▸ bl_setRow (bl_alloc (Below.refl _ _) _) (Nat.le_of_eq hg_) _
  have HB_ := Lib.hid (bl_then HB.out hbx_)
  have lg5 : g5 < (Y).heap.size := (Array.getElem?_eq_some_iff.1 HHg5.out).1
  clear hX_ hg_ HB
  try clear hq
  have HB := HB_
  clear HB_
  go_wp2_with (go_at_call 12; refine (hA.out _).mono ?_; rintro e_ w4 ⟨rfl, hb_⟩; have HB_ := Lib.hid (bl_then2 (by (repeat (with_reducible first | exact HB.out | apply bl_alloc2 | apply bl_drew2 | apply bl_drewN2))) hb_); clear HB hb_; (try clear hq); have HB := HB_; clear HB_; have hq := CB.of HB.out)
  go_ret
  exact ⟨rfl, by (repeat (first | exact bl_then H0W.out HB.out | exact H0W.out | exact HB.out | exact Below.refl _ _ | refine bl_set ?_ (by assumption) _ | refine bl_alloc ?_ _ | refine bl_drew ?_ | refine bl_drewN ?_ _))⟩

set_option maxRecDepth 100000 in
set_option maxHeartbeats 8000000 in
theorem topHeard_main (j ja jb : Job) (A : Option Addr) (c : Nat) (hsa : ja.shifts = j.shifts) (hsb : jb.shifts = j.shifts) (hw : hasR ja.t.pitch jb.t.pitch = true) (hlaw : jobErr ja = 0 → (passR ja ja.t.pitch ≠ 3 → passR jb jb.t.pitch = passR ja ja.t.pitch) ∧ (∀ n, guidedR ja = some n → ∃ m, guidedR jb = some m ∧ m ≤ n))
    (slack : Int) (x : Rg) (ls L : List Ct) (r : Rd) (due : Int) (hd : 1 ≤ due ∧ due ≤ 100000) (hl6 : ls.length ≤ 6) (he : earErr (earC slack x ls) = 0) (b o c1 : Nat) (A2 : Option Addr) (c2 : Nat) (w : World) (h1 : Row Rg.cs 2 w (some ⟨b, o, none⟩) [x]) (h2 : Row Rd.cs 6 w A2 (ls.map Ct.rd)) (h3 : Row Rg.cs 2 w A j.shifts) (hm : j.shifts.length ≤ 1000000000000000)
    (H13 : ∀ w, Row Rg.cs 2 w (some ⟨b, o, none⟩) [x] → Row Rd.cs 6 w A2 (ls.map Ct.rd) → Calls Try.prog 13 #[.agg #[.int .i64 slack, .slice (some ⟨b, o, none⟩) 1 c1, .slice A2 ls.length c2], r.v] w fun ed w' => ∃ v, ed = .returned (.tuple #[v, .int .i64 0]) ∧ Hid (MoreV slack x L w.heap.size v w') ∧ Below w.heap.size w w')
    (H14 : ∀ w, Row Rg.cs 2 w (some ⟨b, o, none⟩) [x] → Row Rd.cs 6 w A2 (ls.map Ct.rd) → Calls Try.prog 14 #[.agg #[.int .i64 slack, .slice (some ⟨b, o, none⟩) 1 c1, .slice A2 ls.length c2], r.v] w fun ed w' => ∃ v, ed = .returned (.tuple #[v, .int .i64 0]) ∧ Hid (MoreV slack x L w.heap.size v w') ∧ Below w.heap.size w w')
    (HJ1 : ∀ w, Row Rg.cs 2 w (some ⟨b, o, none⟩) [x] → Row Rd.cs 6 w A2 (ls.map Ct.rd) → Calls Try.prog 15 #[j.v A c, .agg #[.int .i64 slack, .slice (some ⟨b, o, none⟩) 1 c1, .slice A2 ls.length c2], .int .i64 due] w fun ed w' => ed = .returned (.tuple #[ja.v A c, .bool true]) ∧ Below w.heap.size w w')
    (HJ2 : ∀ g c1 A2 c2 w, Row Rg.cs 2 w (some ⟨g, 0, none⟩) [x] → Row Rd.cs 6 w A2 (L.map Ct.rd) → Calls Try.prog 15 #[j.v A c, .agg #[.int .i64 slack, .slice (some ⟨g, 0, none⟩) 1 c1, .slice A2 L.length c2], .int .i64 due] w fun ed w' => ed = .returned (.tuple #[jb.v A c, .bool true]) ∧ Below w.heap.size w w') :
    Calls Try.prog 4 #[j.v A c, .agg #[.int .i64 slack, .slice (some ⟨b, o, none⟩) 1 c1, .slice A2 ls.length c2], r.v, .int .i64 due] w fun ed w' => ed = .returned (.bool true) ∧ Below w.heap.size w w' := by
  have K13 := Lib.hid H13
  have K14 := Lib.hid H14
  have KJ1 := Lib.hid HJ1
  have KJ2 := Lib.hid HJ2
  have hA := Lib.hid heardAwake_calls
  have HSA := Lib.hid (fun (w : World) (h : Row Rg.cs 2 w A j.shifts) => (show Row Rg.cs 2 w A ja.shifts by rw [hsa]; exact h))
  have HSB := Lib.hid (fun (w : World) (h : Row Rg.cs 2 w A j.shifts) => (show Row Rg.cs 2 w A jb.shifts by rw [hsb]; exact h))
  have hma : ja.shifts.length ≤ 1000000000000000 := by rw [hsa]; exact hm
  have hmb : jb.shifts.length ≤ 1000000000000000 := by rw [hsb]; exact hm
  have CA := Lib.hid (fun w h => ref1Check_calls ja A c w h hma)
  have CB_ := Lib.hid (fun w h => ref1Check_calls jb A c w h hmb)
  have HWI := Lib.hid (fun w => wider_calls ja.t.pitch jb.t.pitch w)
  rw [hw] at HWI
  have HLAW := Lib.hid hlaw
  clear H13 H14 HJ1 HJ2 hsa hsb hw hlaw
  have hC := Lib.hid (ref2Check_calls (earC slack x ls) (some ⟨b, o, none⟩) A2 c1 c2)
  rw [he] at hC
  simp only [earC, List.length_map, List.length_cons, List.length_nil, Nat.zero_add] at hC
  have t1 : decide (due < 1) = false := by simp; omega
  have t2 : decide (100000 < due) = false := by simp; omega
  go_enter Try.func4, Try.ntmps4
  go_upto_region 1 with (fail)
  generalize hW : ((w.alloc _).alloc _).alloc _ = W
  generalize h3_ : w.heap.size + 1 + 1 = g3
  generalize h2_ : w.heap.size + 1 = g2
  generalize h1_ : w.heap.size = g1
  obtain ⟨hB0_, Hg1, Hg2, Hg3, kg1, kg2, kg3, fg1, fg2, fg3, lg1, lg2, lg3, bg1, bg2, bg3, ng12, ng13, ng21, ng23, ng31, ng32⟩ := gen3 w _ _ _ _ _ _ hW h3_ h2_ h1_
  clear hW h1_ h2_ h3_
  have H0W := Lib.hid hB0_
  clear hB0_
  have HHg1 := Lib.hid Hg1
  have HHg2 := Lib.hid Hg2
  have HHg3 := Lib.hid Hg3
  clear Hg1 Hg2 Hg3
  have HB := Lib.hid (Below.refl W.heap.size W)
  have HR1 := Lib.hid (h1.below H0W.out)
  have HR2 := Lib.hid (h2.below H0W.out)
  clear h1 h2
  have HR3 := Lib.hid (h3.below H0W.out)
  clear h3
  go_upto_region 4 with (first
    | ((with_reducible refine ld_gate 41 rfl ?_); refine wpList_load_row rfl 41 _ rfl g2 rfl 41 _ (0, 0) _ ((HB.out.block _ lg2).trans HHg2.out) Try.underlying41 rfl size41 ?_)
    | ((with_reducible refine ld_gate 53 rfl ?_); refine wpList_load_row rfl 53 _ rfl g3 rfl 53 _ (0, 0) _ ((HB.out.block _ lg3).trans HHg3.out) Try.underlying53 rfl size53 ?_)
    | ((with_reducible refine ld_gate 51 rfl ?_); refine wpList_load_row rfl 51 _ rfl g1 rfl 51 _ (0, 0) _ ((HB.out.block _ lg1).trans HHg1.out) Try.underlying51 rfl size51j ?_)
    | (go_at_call 9; refine (hC.out _ (HR1.out.below HB.out) (HR2.out.below HB.out) (by omega) (by omega)).mono ?_; rintro e_ w1 ⟨rfl, hb_⟩; have HB_ := Lib.hid (bl_then2 (by (repeat (with_reducible first | exact HB.out | apply bl_alloc2 | apply bl_drew2 | apply bl_drewN2))) hb_); clear HB hb_; (try clear hq); have HB := HB_; clear HB_; have hq := CB.of HB.out)
    | ((with_reducible refine st_gate 41 rfl ?_); refine wpList_store_row rfl 41 _ _ rfl _ _ rfl rfl 41 _ (heap_alloc_at _ _ _ rfl) size41 (by simp) (by simp [Value.oneCell']) ?_)
    | ((with_reducible refine st_gate 51 rfl ?_); refine wpList_store_row rfl 51 _ _ rfl _ _ rfl rfl 51 _ (heap_alloc_at _ _ _ rfl) size51j (by simp) (by simp [Value.oneCell']) ?_)
    | (go_at_call 13; refine (K13.out _ (HR1.out.below HB.out) (HR2.out.below HB.out)).mono ?_; rintro e_ w2 ⟨v, rfl, HM, hb_⟩; obtain ⟨gm, cm, Am, cm2, rfl, hrm1, hrm2⟩ := HM.out; have HM1 := Lib.hid hrm1; have HM2 := Lib.hid hrm2; clear hrm1 hrm2 HM; have HB_ := Lib.hid (bl_then2 (by (repeat (with_reducible first | exact HB.out | apply bl_alloc2 | apply bl_drew2 | apply bl_drewN2))) hb_); clear HB hb_; (try clear hq); have HB := HB_; clear HB_; have hq := CB.of HB.out))
  generalize hg_ : (World.heap (w2)).size = g4
  generalize hX_ : ((w2).alloc _).setRow g4 _ = X4
  have HHg4 := Lib.hid (hX_ ▸ setRow_heap (heap_alloc_at (w2) _ g4 hg_.symm))
  have hbx_ : Below (World.heap (w2)).size (w2) (X4) := hX_ ▸ bl_setRow (bl_alloc (Below.refl _ _) _) (Nat.le_of_eq hg_) _
  have HB_ := Lib.hid (bl_then HB.out hbx_)
  have lg4 : g4 < (X4).heap.size := (Array.getElem?_eq_some_iff.1 HHg4.out).1
  clear hX_ hg_ HB
  try clear hq
  have HB := HB_
  clear HB_
  have HM1 := Lib.hid (HM1.out.below hbx_)
  have HM2 := Lib.hid (HM2.out.below hbx_)
  have HBW := H0W
  clear hbx_ kg1 kg2 kg3 fg1 fg2 fg3 H0W
  have HR1 := Lib.hid (HR1.out.below HB.out)
  have HR2 := Lib.hid (HR2.out.below HB.out)
  have HR3 := Lib.hid (HR3.out.below HB.out)
  have HHg1 := Lib.hid ((HB.out.block _ lg1).trans HHg1.out)
  have lg1 := Nat.lt_of_lt_of_le lg1 HB.out.size
  have HHg2 := Lib.hid ((HB.out.block _ lg2).trans HHg2.out)
  have lg2 := Nat.lt_of_lt_of_le lg2 HB.out.size
  have HHg3 := Lib.hid ((HB.out.block _ lg3).trans HHg3.out)
  have lg3 := Nat.lt_of_lt_of_le lg3 HB.out.size
  have HBW := Lib.hid (bl_then HBW.out HB.out)
  clear HB
  try clear hq
  have HB := Lib.hid (Below.refl X4.heap.size X4)
  go_upto_region 5 with (first
    | ((with_reducible refine ld_gate 41 rfl ?_); refine wpList_load_row rfl 41 _ rfl g2 rfl 41 _ (0, 0) _ ((HB.out.block _ lg2).trans HHg2.out) Try.underlying41 rfl size41 ?_)
    | ((with_reducible refine ld_gate 53 rfl ?_); refine wpList_load_row rfl 53 _ rfl g3 rfl 53 _ (0, 0) _ ((HB.out.block _ lg3).trans HHg3.out) Try.underlying53 rfl size53 ?_)
    | ((with_reducible refine ld_gate 51 rfl ?_); refine wpList_load_row rfl 51 _ rfl g1 rfl 51 _ (0, 0) _ ((HB.out.block _ lg1).trans HHg1.out) Try.underlying51 rfl size51j ?_)
    | (go_at_call 9; refine (hC.out _ (HR1.out.below HB.out) (HR2.out.below HB.out) (by omega) (by omega)).mono ?_; rintro e_ w1 ⟨rfl, hb_⟩; have HB_ := Lib.hid (bl_then2 (by (repeat (with_reducible first | exact HB.out | apply bl_alloc2 | apply bl_drew2 | apply bl_drewN2))) hb_); clear HB hb_; (try clear hq); have HB := HB_; clear HB_; have hq := CB.of HB.out)
    | ((with_reducible refine st_gate 41 rfl ?_); refine wpList_store_row rfl 41 _ _ rfl _ _ rfl rfl 41 _ (heap_alloc_at _ _ _ rfl) size41 (by simp) (by simp [Value.oneCell']) ?_)
    | ((with_reducible refine st_gate 51 rfl ?_); refine wpList_store_row rfl 51 _ _ rfl _ _ rfl rfl 51 _ (heap_alloc_at _ _ _ rfl) size51j (by simp) (by simp [Value.oneCell']) ?_)
    | (go_at_call 14; refine (K14.out _ (HR1.out.below HB.out) (HR2.out.below HB.out)).mono ?_; rintro e_ w3 ⟨v, rfl, HM, hb_⟩; obtain ⟨gz, cz, Az, cz2, rfl, -, -⟩ := HM.out; clear HM; have HB_ := Lib.hid (bl_then2 (by (repeat (with_reducible first | exact HB.out | apply bl_alloc2 | apply bl_drew2 | apply bl_drewN2))) hb_); clear HB hb_; (try clear hq); have HB := HB_; clear HB_; have hq := CB.of HB.out))
  generalize hg_ : (World.heap (w3)).size = g5
  generalize hX_ : ((w3).alloc _).setRow g5 _ = X5
  have HHg5 := Lib.hid (hX_ ▸ setRow_heap (heap_alloc_at (w3) _ g5 hg_.symm))
  have hbx_ : Below (World.heap (w3)).size (w3) (X5) := hX_ ▸ bl_setRow (bl_alloc (Below.refl _ _) _) (Nat.le_of_eq hg_) _
  have HB_ := Lib.hid (bl_then HB.out hbx_)
  have lg5 : g5 < (X5).heap.size := (Array.getElem?_eq_some_iff.1 HHg5.out).1
  clear hX_ hg_ HB
  try clear hq
  have HB := HB_
  clear HB_
  clear hbx_ K13 K14 HHg5 lg5
  have HR1 := Lib.hid (HR1.out.below HB.out)
  have HR2 := Lib.hid (HR2.out.below HB.out)
  have HR3 := Lib.hid (HR3.out.below HB.out)
  have HM1 := Lib.hid (HM1.out.below HB.out)
  have HM2 := Lib.hid (HM2.out.below HB.out)
  have HHg1 := Lib.hid ((HB.out.block _ lg1).trans HHg1.out)
  have lg1 := Nat.lt_of_lt_of_le lg1 HB.out.size
  have HHg2 := Lib.hid ((HB.out.block _ lg2).trans HHg2.out)
  have lg2 := Nat.lt_of_lt_of_le lg2 HB.out.size
  have HHg3 := Lib.hid ((HB.out.block _ lg3).trans HHg3.out)
  have lg3 := Nat.lt_of_lt_of_le lg3 HB.out.size
  have HHg4 := Lib.hid ((HB.out.block _ lg4).trans HHg4.out)
  have lg4 := Nat.lt_of_lt_of_le lg4 HB.out.size
  have HBW := Lib.hid (bl_then HBW.out HB.out)
  clear HB
  try clear hq
  have HB := Lib.hid (Below.refl X5.heap.size X5)
  go_upto_region 10 with (first
    | ((with_reducible refine ld_gate 41 rfl ?_); refine wpList_load_row rfl 41 _ rfl g2 rfl 41 _ (0, 0) _ ((HB.out.block _ lg2).trans HHg2.out) Try.underlying41 rfl size41 ?_)
    | ((with_reducible refine ld_gate 53 rfl ?_); refine wpList_load_row rfl 53 _ rfl g3 rfl 53 _ (0, 0) _ ((HB.out.block _ lg3).trans HHg3.out) Try.underlying53 rfl size53 ?_)
    | ((with_reducible refine ld_gate 51 rfl ?_); refine wpList_load_row rfl 51 _ rfl g1 rfl 51 _ (0, 0) _ ((HB.out.block _ lg1).trans HHg1.out) Try.underlying51 rfl size51j ?_)
    | (go_at_call 9; refine (hC.out _ (HR1.out.below HB.out) (HR2.out.below HB.out) (by omega) (by omega)).mono ?_; rintro e_ w1 ⟨rfl, hb_⟩; have HB_ := Lib.hid (bl_then2 (by (repeat (with_reducible first | exact HB.out | apply bl_alloc2 | apply bl_drew2 | apply bl_drewN2))) hb_); clear HB hb_; (try clear hq); have HB := HB_; clear HB_; have hq := CB.of HB.out)
    | ((with_reducible refine st_gate 41 rfl ?_); refine wpList_store_row rfl 41 _ _ rfl _ _ rfl rfl 41 _ (heap_alloc_at _ _ _ rfl) size41 (by simp) (by simp [Value.oneCell']) ?_)
    | ((with_reducible refine st_gate 51 rfl ?_); refine wpList_store_row rfl 51 _ _ rfl _ _ rfl rfl 51 _ (heap_alloc_at _ _ _ rfl) size51j (by simp) (by simp [Value.oneCell']) ?_)
    | (go_at_call 15; refine (KJ1.out _ (HR1.out.below HB.out) (HR2.out.below HB.out)).mono ?_; rintro e_ w4 ⟨rfl, hb_⟩; have HB_ := Lib.hid (bl_then2 (by (repeat (with_reducible first | exact HB.out | apply bl_alloc2 | apply bl_drew2 | apply bl_drewN2))) hb_); clear HB hb_; (try clear hq); have HB := HB_; clear HB_; have hq := CB.of HB.out))
  generalize hg_ : (World.heap (w4)).size = g6
  generalize hX_ : ((w4).alloc _).setRow g6 _ = X6
  have HHg6 := Lib.hid (hX_ ▸ setRow_heap (heap_alloc_at (w4) _ g6 hg_.symm))
  have hbx_ : Below (World.heap (w4)).size (w4) (X6) := hX_ ▸ bl_setRow (bl_alloc (Below.refl _ _) _) (Nat.le_of_eq hg_) _
  have HB_ := Lib.hid (bl_then HB.out hbx_)
  have lg6 : g6 < (X6).heap.size := (Array.getElem?_eq_some_iff.1 HHg6.out).1
  clear hX_ hg_ HB
  try clear hq
  have HB := HB_
  clear HB_
  clear hbx_
  have HR1 := Lib.hid (HR1.out.below HB.out)
  have HR2 := Lib.hid (HR2.out.below HB.out)
  have HR3 := Lib.hid (HR3.out.below HB.out)
  have HM1 := Lib.hid (HM1.out.below HB.out)
  have HM2 := Lib.hid (HM2.out.below HB.out)
  have HHg1 := Lib.hid ((HB.out.block _ lg1).trans HHg1.out)
  have lg1 := Nat.lt_of_lt_of_le lg1 HB.out.size
  have HHg2 := Lib.hid ((HB.out.block _ lg2).trans HHg2.out)
  have lg2 := Nat.lt_of_lt_of_le lg2 HB.out.size
  have HHg3 := Lib.hid ((HB.out.block _ lg3).trans HHg3.out)
  have lg3 := Nat.lt_of_lt_of_le lg3 HB.out.size
  have HHg4 := Lib.hid ((HB.out.block _ lg4).trans HHg4.out)
  have lg4 := Nat.lt_of_lt_of_le lg4 HB.out.size
  have HBW := Lib.hid (bl_then HBW.out HB.out)
  clear HB
  try clear hq
  have HB := Lib.hid (Below.refl X6.heap.size X6)
  go_upto_region 11 with (first
    | ((with_reducible refine ld_gate 41 rfl ?_); refine wpList_load_row rfl 41 _ rfl g2 rfl 41 _ (0, 0) _ ((HB.out.block _ lg2).trans HHg2.out) Try.underlying41 rfl size41 ?_)
    | ((with_reducible refine ld_gate 53 rfl ?_); refine wpList_load_row rfl 53 _ rfl g3 rfl 53 _ (0, 0) _ ((HB.out.block _ lg3).trans HHg3.out) Try.underlying53 rfl size53 ?_)
    | ((with_reducible refine ld_gate 51 rfl ?_); refine wpList_load_row rfl 51 _ rfl g1 rfl 51 _ (0, 0) _ ((HB.out.block _ lg1).trans HHg1.out) Try.underlying51 rfl size51j ?_)
    | (go_at_call 9; refine (hC.out _ (HR1.out.below HB.out) (HR2.out.below HB.out) (by omega) (by omega)).mono ?_; rintro e_ w1 ⟨rfl, hb_⟩; have HB_ := Lib.hid (bl_then2 (by (repeat (with_reducible first | exact HB.out | apply bl_alloc2 | apply bl_drew2 | apply bl_drewN2))) hb_); clear HB hb_; (try clear hq); have HB := HB_; clear HB_; have hq := CB.of HB.out)
    | ((with_reducible refine st_gate 41 rfl ?_); refine wpList_store_row rfl 41 _ _ rfl _ _ rfl rfl 41 _ (heap_alloc_at _ _ _ rfl) size41 (by simp) (by simp [Value.oneCell']) ?_)
    | ((with_reducible refine st_gate 51 rfl ?_); refine wpList_store_row rfl 51 _ _ rfl _ _ rfl rfl 51 _ (heap_alloc_at _ _ _ rfl) size51j (by simp) (by simp [Value.oneCell']) ?_)
    | ((with_reducible refine ld_gate 41 rfl ?_); refine wpList_load_row rfl 41 _ rfl g4 rfl 41 _ (0, 0) _ ((HB.out.block _ lg4).trans HHg4.out) Try.underlying41 rfl size41 ?_)
    | (go_at_call 15; refine (KJ2.out gm cm Am cm2 _ (HM1.out.below HB.out) (HM2.out.below HB.out)).mono ?_; rintro e_ w5 ⟨rfl, hb_⟩; have HB_ := Lib.hid (bl_then2 (by (repeat (with_reducible first | exact HB.out | apply bl_alloc2 | apply bl_drew2 | apply bl_drewN2))) hb_); clear HB hb_; (try clear hq); have HB := HB_; clear HB_; have hq := CB.of HB.out))
  generalize hg_ : (World.heap (w5)).size = g7
  generalize hX_ : ((w5).alloc _).setRow g7 _ = X7
  have HHg7 := Lib.hid (hX_ ▸ setRow_heap (heap_alloc_at (w5) _ g7 hg_.symm))
  have hbx_ : Below (World.heap (w5)).size (w5) (X7) := hX_ ▸ bl_setRow (bl_alloc (Below.refl _ _) _) (Nat.le_of_eq hg_) _
  have HB_ := Lib.hid (bl_then HB.out hbx_)
  have lg7 : g7 < (X7).heap.size := (Array.getElem?_eq_some_iff.1 HHg7.out).1
  clear hX_ hg_ HB
  try clear hq
  have HB := HB_
  clear HB_
  clear hbx_ KJ1 KJ2
  have HR3 := Lib.hid (HR3.out.below HB.out)
  have HHg6 := Lib.hid ((HB.out.block _ lg6).trans HHg6.out)
  have lg6 := Nat.lt_of_lt_of_le lg6 HB.out.size
  have HBW := Lib.hid (bl_then HBW.out HB.out)
  clear HB
  try clear hq
  have HB := Lib.hid (Below.refl X7.heap.size X7)
  clear HR1 HR2 HM1 HM2 HHg1 HHg2 HHg3 HHg4
  have k6 := fun i => cell_of_row X7 g6 i _ _ _ HHg6.out
  have k7 := fun i => cell_of_row X7 g7 i _ _ _ HHg7.out
  go_upto_region 13 with (first
    | (go_at_call 16; refine (HWI.out _).mono ?_; rintro e_ w6 ⟨rfl, hb_⟩; have HB_ := Lib.hid (bl_then2 (by (repeat (with_reducible first | exact HB.out | apply bl_alloc2 | apply bl_drew2 | apply bl_drewN2))) hb_); clear HB hb_; (try clear hq); have HB := HB_; clear HB_; have hq := CB.of HB.out))
  clear k6 k7
  obtain ⟨ea, hea⟩ : ∃ ea, jobErr ja = ea := ⟨_, rfl⟩
  obtain ⟨eb, heb⟩ : ∃ eb, jobErr jb = eb := ⟨_, rfl⟩
  rw [hea] at CA HLAW
  rw [heb] at CB_
  have HEA := Lib.hid hea
  have HEB := Lib.hid heb
  clear hea heb
  by_cases ha0 : ea = 0
  · subst ha0
    by_cases hb0 : eb = 0
    · subst hb0
      have PA := Lib.hid (fun w h => PassesG_calls ja A c w h HEA.out hma)
      have PB := Lib.hid (fun w h => PassesG_calls jb A c w h HEB.out hmb)
      have GA := Lib.hid (fun w h => Guided_calls ja A c w h HEA.out hma)
      have GB := Lib.hid (fun w h => Guided_calls jb A c w h HEB.out hmb)
      obtain ⟨hl1, hl2⟩ := HLAW.out rfl
      clear HLAW HEA HEB
      unfold guidedV at GA GB
      generalize passR ja ja.t.pitch = va at *
      generalize passR jb jb.t.pitch = vb at *
      generalize guidedR ja = na at *
      generalize guidedR jb = nb at *
      have hv : va = 3 ∨ (va ≠ 3 ∧ vb = va) := by
        by_cases h : va = 3
        · exact .inl h
        · exact .inr ⟨h, hl1 h⟩
      have hcase : (∃ n m, na = some n ∧ nb = some m ∧ m ≤ n) ∨ (na = none ∧ nb = none) ∨ (na = none ∧ ∃ m, nb = some m) := by
        cases na with
        | some n => obtain ⟨m, h1, h2⟩ := hl2 n rfl; exact .inl ⟨n, m, rfl, h1, h2⟩
        | none => cases nb with
          | none => exact .inr (.inl ⟨rfl, rfl⟩)
          | some m => exact .inr (.inr ⟨rfl, m, rfl⟩)
      clear hl1 hl2
      rcases hv with rfl | ⟨hv3, rfl⟩
      all_goals try (have hv4 : (vb != 3) = true := by simpa using hv3)
      all_goals
        rcases hcase with ⟨n, m, rfl, rfl, hmn⟩ | ⟨rfl, rfl⟩ | ⟨rfl, m, rfl⟩
      all_goals dsimp only at GA GB
      all_goals try (have hmi : (m : Int) ≤ (n : Int) := by omega)
      all_goals try (have hmd : decide ((m : Int) ≤ (n : Int)) = true := decide_eq_true hmi)
      all_goals go_wp2_with (first
        | ((with_reducible refine ld_gate 51 rfl ?_); refine wpList_load_row_g (by rfl) 51 _ rfl g6 rfl 51 _ (0, 0) _ ((HB.out.block _ lg6).trans HHg6.out) Try.underlying51 rfl size51j ?_)
        | ((with_reducible refine ld_gate 51 rfl ?_); refine wpList_load_row_g (by rfl) 51 _ rfl g7 rfl 51 _ (0, 0) _ ((HB.out.block _ lg7).trans HHg7.out) Try.underlying51 rfl size51j ?_)
        | (go_at_call 17; (with_reducible refine (CA.out _ (HSA.out _ (HR3.out.below HB.out))).mono ?_); rintro e_ w8 ⟨rfl, hb_⟩; have HB_ := Lib.hid (bl_then2 (by (repeat (with_reducible first | exact HB.out | apply bl_alloc2 | apply bl_drew2 | apply bl_drewN2))) hb_); clear HB hb_; (try clear hq); have HB := HB_; clear HB_; have hq := CB.of HB.out)
        | (go_at_call 17; (with_reducible refine (CB_.out _ (HSB.out _ (HR3.out.below HB.out))).mono ?_); rintro e_ w8 ⟨rfl, hb_⟩; have HB_ := Lib.hid (bl_then2 (by (repeat (with_reducible first | exact HB.out | apply bl_alloc2 | apply bl_drew2 | apply bl_drewN2))) hb_); clear HB hb_; (try clear hq); have HB := HB_; clear HB_; have hq := CB.of HB.out)
        | (go_at_call 12; refine (hA.out _).mono ?_; rintro e_ w9 ⟨rfl, hb_⟩; have HB_ := Lib.hid (bl_then2 (by (repeat (with_reducible first | exact HB.out | apply bl_alloc2 | apply bl_drew2 | apply bl_drewN2))) hb_); clear HB hb_; (try clear hq); have HB := HB_; clear HB_; have hq := CB.of HB.out)
        | (go_at_call 18; (with_reducible refine (PA.out _ (HSA.out _ (HR3.out.below HB.out))).mono ?_); rintro e_ w8 ⟨rfl, hb_⟩; have HB_ := Lib.hid (bl_then2 (by (repeat (with_reducible first | exact HB.out | apply bl_alloc2 | apply bl_drew2 | apply bl_drewN2))) hb_); clear HB hb_; (try clear hq); have HB := HB_; clear HB_; have hq := CB.of HB.out)
        | (go_at_call 18; (with_reducible refine (PB.out _ (HSB.out _ (HR3.out.below HB.out))).mono ?_); rintro e_ w8 ⟨rfl, hb_⟩; have HB_ := Lib.hid (bl_then2 (by (repeat (with_reducible first | exact HB.out | apply bl_alloc2 | apply bl_drew2 | apply bl_drewN2))) hb_); clear HB hb_; (try clear hq); have HB := HB_; clear HB_; have hq := CB.of HB.out)
        | (go_at_call 19; (with_reducible refine (GA.out _ (HSA.out _ (HR3.out.below HB.out))).mono ?_); rintro e_ w8 ⟨rfl, hb_⟩; have HB_ := Lib.hid (bl_then2 (by (repeat (with_reducible first | exact HB.out | apply bl_alloc2 | apply bl_drew2 | apply bl_drewN2))) hb_); clear HB hb_; (try clear hq); have HB := HB_; clear HB_; have hq := CB.of HB.out)
        | (go_at_call 19; (with_reducible refine (GB.out _ (HSB.out _ (HR3.out.below HB.out))).mono ?_); rintro e_ w8 ⟨rfl, hb_⟩; have HB_ := Lib.hid (bl_then2 (by (repeat (with_reducible first | exact HB.out | apply bl_alloc2 | apply bl_drew2 | apply bl_drewN2))) hb_); clear HB hb_; (try clear hq); have HB := HB_; clear HB_; have hq := CB.of HB.out))
      all_goals go_ret
      all_goals exact ⟨rfl, bl_then HBW.out HB.out⟩
    · have hbb : (eb != 0) = true := by simpa using hb0
      go_wp2_with (first
        | ((with_reducible refine ld_gate 51 rfl ?_); refine wpList_load_row_g (by rfl) 51 _ rfl g6 rfl 51 _ (0, 0) _ ((HB.out.block _ lg6).trans HHg6.out) Try.underlying51 rfl size51j ?_)
        | ((with_reducible refine ld_gate 51 rfl ?_); refine wpList_load_row_g (by rfl) 51 _ rfl g7 rfl 51 _ (0, 0) _ ((HB.out.block _ lg7).trans HHg7.out) Try.underlying51 rfl size51j ?_)
        | (go_at_call 17; (with_reducible refine (CA.out _ (HSA.out _ (HR3.out.below HB.out))).mono ?_); rintro e_ w8 ⟨rfl, hb_⟩; have HB_ := Lib.hid (bl_then2 (by (repeat (with_reducible first | exact HB.out | apply bl_alloc2 | apply bl_drew2 | apply bl_drewN2))) hb_); clear HB hb_; (try clear hq); have HB := HB_; clear HB_; have hq := CB.of HB.out)
        | (go_at_call 17; (with_reducible refine (CB_.out _ (HSB.out _ (HR3.out.below HB.out))).mono ?_); rintro e_ w8 ⟨rfl, hb_⟩; have HB_ := Lib.hid (bl_then2 (by (repeat (with_reducible first | exact HB.out | apply bl_alloc2 | apply bl_drew2 | apply bl_drewN2))) hb_); clear HB hb_; (try clear hq); have HB := HB_; clear HB_; have hq := CB.of HB.out)
        | (go_at_call 12; refine (hA.out _).mono ?_; rintro e_ w9 ⟨rfl, hb_⟩; have HB_ := Lib.hid (bl_then2 (by (repeat (with_reducible first | exact HB.out | apply bl_alloc2 | apply bl_drew2 | apply bl_drewN2))) hb_); clear HB hb_; (try clear hq); have HB := HB_; clear HB_; have hq := CB.of HB.out))
      go_ret
      exact ⟨rfl, bl_then HBW.out HB.out⟩
  · have hbb : (ea != 0) = true := by simpa using ha0
    go_wp2_with (first
      | ((with_reducible refine ld_gate 51 rfl ?_); refine wpList_load_row_g (by rfl) 51 _ rfl g6 rfl 51 _ (0, 0) _ ((HB.out.block _ lg6).trans HHg6.out) Try.underlying51 rfl size51j ?_)
      | ((with_reducible refine ld_gate 51 rfl ?_); refine wpList_load_row_g (by rfl) 51 _ rfl g7 rfl 51 _ (0, 0) _ ((HB.out.block _ lg7).trans HHg7.out) Try.underlying51 rfl size51j ?_)
      | (go_at_call 17; (with_reducible refine (CA.out _ (HSA.out _ (HR3.out.below HB.out))).mono ?_); rintro e_ w8 ⟨rfl, hb_⟩; have HB_ := Lib.hid (bl_then2 (by (repeat (with_reducible first | exact HB.out | apply bl_alloc2 | apply bl_drew2 | apply bl_drewN2))) hb_); clear HB hb_; (try clear hq); have HB := HB_; clear HB_; have hq := CB.of HB.out)
      | (go_at_call 17; (with_reducible refine (CB_.out _ (HSB.out _ (HR3.out.below HB.out))).mono ?_); rintro e_ w8 ⟨rfl, hb_⟩; have HB_ := Lib.hid (bl_then2 (by (repeat (with_reducible first | exact HB.out | apply bl_alloc2 | apply bl_drew2 | apply bl_drewN2))) hb_); clear HB hb_; (try clear hq); have HB := HB_; clear HB_; have hq := CB.of HB.out)
      | (go_at_call 12; refine (hA.out _).mono ?_; rintro e_ w9 ⟨rfl, hb_⟩; have HB_ := Lib.hid (bl_then2 (by (repeat (with_reducible first | exact HB.out | apply bl_alloc2 | apply bl_drew2 | apply bl_drewN2))) hb_); clear HB hb_; (try clear hq); have HB := HB_; clear HB_; have hq := CB.of HB.out))
    go_ret
    exact ⟨rfl, bl_then HBW.out HB.out⟩
end Go.Proofs.Ytnclljamcfoolaa
namespace Go.Proofs.Ytnclljamcfoolaa
open Go.ChangeShapes Go.WideShapes Go.RowKit Go.Deep
set_option linter.unusedVariables false
set_option linter.unusedSimpArgs false

/-- a type that is whole numbers all through -/
def intsB (P : Program) : Nat → TypeId → Bool
  | 0, _ => false
  | n + 1, t => match P.underlying t with
    | some (.int .i64) => true
    | some (.struct fs) => (fs.toList.all fun f => intsB P n f.type) && (List.range (P.cellsOf t)).all fun c => fs.toList.any fun f => decide (f.offset ≤ c) && decide (c < f.offset + P.cellsOf f.type)
    | _ => false
def wf64 (v : Value) : Prop := ∃ i, v = .int .i64 i ∧ (Lit.int .i64 i).wf = true

section
variable {H : Type} {enc : TypeId × Value → H} {P : Program} {w : World} {base : Nat} {spare : Nat → Bool} {held : Bool}

theorem ints_of : ∀ (n fuel : Nat) (t : TypeId) (cs : List Value) (x : DataW H × List MemPlace), intsB P n t = true → DataW.trod enc P w base spare held fuel t cs = some x → ∀ v ∈ cs, wf64 v
  | 0, _, _, _, _, hb, _ => by simp [intsB] at hb
  | n + 1, fuel, t, cs, x, hb, h => by
    unfold intsB at hb
    split at hb
    · rename_i ht
      obtain ⟨i, rfl, -, hw⟩ := DataW.trod_int ht h
      intro v hv
      exact ⟨i, by simpa using hv, hw⟩
    · rename_i fs ht
      obtain ⟨xs, m, -, -, hlen, hxl, hf⟩ := DataW.trod_struct ht h
      rw [Bool.and_eq_true, List.all_eq_true, List.all_eq_true] at hb
      intro v hv
      obtain ⟨c, hc, rfl⟩ := List.mem_iff_getElem.1 hv
      have h1 := hb.2 c (List.mem_range.2 (hlen ▸ hc))
      obtain ⟨f, hfm, hin⟩ := List.any_eq_true.1 h1
      simp only [Bool.and_eq_true, decide_eq_true_eq] at hin
      obtain ⟨i, hi, hfi⟩ := List.mem_iff_getElem.1 hfm
      have hi' : i < fs.size := by simpa using hi
      have h2 := hf i f (by rw [← hfi]; simp [hi'])
      have hix : i < xs.length := hxl ▸ hi'
      rw [List.getElem?_eq_getElem hix] at h2
      refine ints_of n m f.type _ _ (hb.1 f hfm) h2 _ ?_
      refine List.mem_iff_getElem.2 ⟨c - f.offset, by simp; omega, ?_⟩
      rw [List.getElem_take, List.getElem_drop]
      congr 1
      omega
    · exact absurd hb (by simp)

theorem ints_list {cs : List Value} (h : ∀ v ∈ cs, wf64 v) : ∃ l : List Int, cs = l.map (Value.int .i64) ∧ ∀ z ∈ l, (Lit.int .i64 z).wf = true := by
  induction cs with
  | nil => exact ⟨[], rfl, by simp⟩
  | cons v cs ih =>
    obtain ⟨l, hl, hw⟩ := ih fun u hu => h u (List.mem_cons_of_mem _ hu)
    obtain ⟨i, hi, hwi⟩ := h v List.mem_cons_self
    exact ⟨i :: l, by rw [hl, hi]; rfl, by simpa using ⟨hwi, hw⟩⟩

/-- a slice of structs of whole numbers is a row -/
theorem open_row {α : Type} (en : α → List Value) (de : List Int → α) (sz n : Nat) {t e : TypeId} {fuel : Nat} {cs : List Value} {x : DataW H × List MemPlace} (hd : ∀ l : List Int, l.length = sz → en (de l) = l.map (Value.int .i64)) (ht : P.underlying t = some (.slice e)) (hsz : P.cellsOf e = sz) (hsz0 : 0 < sz) (hi : intsB P n e = true)
    (h : DataW.trod enc P w base spare held fuel t cs = some x) :
    ∃ (A : Option Addr) (xs : List α) (cap : Nat), cs = [.slice A xs.length cap] ∧ Row en sz w A xs ∧ (xs = [] ∨ ∃ es sp, x.1 = .slice es sp ∧ es.length = xs.length) := by
  rcases open_slice ht h with ⟨rfl, -⟩ | ⟨a, len, cap, m, k, D, Pl, rfl, hb, hl, hm, hmm, rfl, hel⟩
  · exact ⟨none, [], 0, rfl, .inl rfl, .inl rfl⟩
  have hlm : len ≤ m := by rw [hmm]; split <;> omega
  have key : ∀ i, i < len → ∃ l : List Int, l.length = sz ∧ ∀ j, j < sz → w.cell? (a.add (i * sz + j)) = (l.map (Value.int .i64))[j]? := by
    intro i hil
    obtain ⟨cs', hc, ht'⟩ := hel i (by omega)
    obtain ⟨-, hcl, hat⟩ := World.cells?_some hc
    obtain ⟨l, rfl, -⟩ := ints_list (ints_of n k e cs' _ hi ht')
    rw [hsz] at hcl hat
    refine ⟨l, by simpa using hcl, fun j hj => ?_⟩
    rw [← Go.Deep.add_add]
    exact hat j hj
  obtain ⟨L, hL⟩ : ∃ L : Nat → List Int, ∀ i, i < len → (L i).length = sz ∧ ∀ j, j < sz → w.cell? (a.add (i * sz + j)) = ((L i).map (Value.int .i64))[j]? := by
    refine ⟨fun i => if hi : i < len then (key i hi).choose else [], fun i hi => ?_⟩
    simp only [dif_pos hi]
    exact (key i hi).choose_spec
  refine ⟨some a, (List.range len).map fun i => de (L i), cap, by simp, ?_, .inr ⟨_, _, rfl, by simp⟩⟩
  rcases Nat.eq_zero_or_pos len with h0 | h0
  · subst h0; exact .inl rfl
  obtain ⟨b, o, s⟩ := a
  obtain rfl : s = none := by
    obtain ⟨hl0, hc0⟩ := hL 0 h0
    have h1 := hc0 0 hsz0
    rw [List.getElem?_eq_getElem (by simpa [hl0] using hsz0)] at h1
    cases s with
    | none => rfl
    | some s =>
      unfold World.cell? Addr.add at h1
      simp only [Nat.zero_mul, Nat.add_zero, if_true, Option.isSome_some] at h1
      split at h1 <;> cases h1
  refine .inr ⟨b, o, rfl, ?_⟩
  intro i y hy j v hv
  have hi' : i < len := by
    rcases Nat.lt_or_ge i len with h | h
    · exact h
    · rw [List.getElem?_eq_none (by simpa using h)] at hy; cases hy
  obtain ⟨hl1, hc1⟩ := hL i hi'
  rw [List.getElem?_map, List.getElem?_range hi'] at hy
  obtain rfl : de (L i) = y := by simpa using hy
  rw [hd _ hl1] at hv
  have hj : j < sz := by
    rcases Nat.lt_or_ge j sz with h | h
    · exact h
    · rw [List.getElem?_eq_none (by simpa [hl1] using h)] at hv; cases hv
  have h1 := hc1 j hj
  rw [hv] at h1
  rw [← h1]
  congr 1
  unfold Addr.add
  split
  · rename_i hz; rw [Nat.add_assoc, hz]; rfl
  · simp [Nat.add_assoc]
end
end Go.Proofs.Ytnclljamcfoolaa
namespace Go.Proofs.Ytnclljamcfoolaa
open Go.ChangeShapes Go.WideShapes Go.RowKit Go.Deep
set_option linter.unusedVariables false
set_option linter.unusedSimpArgs false

section
variable {H : Type} {P : Program}
theorem size_part {t : TypeId} {fs : Array Field} (hu : P.underlying t = some (.struct fs)) {parts : List (DataW H)} (h : ∀ n ∈ (DataW.agg parts).weights P t, n ≤ reachBytes) {j : Nat} {f : Field} {d : DataW H} (hf : fs[j]? = some f) (hd : parts[j]? = some d) : ∀ n ∈ d.weights P f.type, n ≤ reachBytes := by
  intro n hn
  refine h n ?_
  simp only [DataW.weights, hu]
  exact DataW.weights_mem_each (by simp [hf]) hd n hn
theorem size_slice {t e : TypeId} (hu : P.underlying t = some (.slice e)) {es sp : List (DataW H)} (h : ∀ n ∈ (DataW.slice es sp).weights P t, n ≤ reachBytes) (hb : 0 < P.bytesOf e) : es.length ≤ 1000000000000000 := by
  have h1 := h ((es.length + sp.length) * P.bytesOf e) (by simp [DataW.weights, hu])
  have h2 : reachBytes < 2 ^ 47 := reachBytes_lt
  have h3 : (es.length + sp.length) * 1 ≤ (es.length + sp.length) * P.bytesOf e := Nat.mul_le_mul_left _ hb
  omega
theorem size_arg {ts : List TypeId} {ds : List (DataW H)} (h : (DataW.weightsEach P ts ds).all (· ≤ reachBytes) = true) {j : Nat} {t : TypeId} {d : DataW H} (ht : ts[j]? = some t) (hd : ds[j]? = some d) : ∀ n ∈ d.weights P t, n ≤ reachBytes := fun n hn => by
  have := List.all_eq_true.1 h n (DataW.weights_mem_each ht hd n hn)
  simpa using this
end

def deSnd (l : List Int) : Snd := ⟨⟨l.getD 0 0, l.getD 1 0⟩, ⟨l.getD 2 0, l.getD 3 0⟩⟩
theorem deSnd_cs (l : List Int) (h : l.length = 4) : Snd.cs (deSnd l) = l.map (Value.int .i64) := by
  match l, h with
  | [a, b, c, d], _ => rfl

theorem cells23 : Try.prog.cellsOf 23 = 4 := by kernel_rfl
theorem cells3 : Try.prog.cellsOf 3 = 1 := by kernel_rfl
theorem cells24 : Try.prog.cellsOf 24 = 1 := by kernel_rfl
theorem cells26 : Try.prog.cellsOf 26 = 2 := by kernel_rfl
theorem cells28 : Try.prog.cellsOf 28 = 9 := by kernel_rfl
theorem cells30 : Try.prog.cellsOf 30 = 21 := by kernel_rfl

set_option maxRecDepth 100000 in
theorem open_box {H : Type} {enc : TypeId × Value → H} {w : World} {r : Reach} {b0 base : Nat} {spare : Nat → Bool} {held : Bool} {v : Value} {d : DataW H} {p : List MemPlace} (hv : Value.okWide Try.prog w r b0 30 v) (h : DataW.Trod enc Try.prog w base spare held 30 v d p) (hz : ∀ n ∈ d.weights Try.prog 30, n ≤ reachBytes) :
    ∃ (b : Box) (A1 A2 : Option Addr) (c1 c2 : Nat), v = b.v A1 c1 A2 c2 ∧ Row Snd.cs 4 w A1 b.lows ∧ Row Snd.cs 4 w A2 b.highs ∧ b.lows.length ≤ 1000000000000000 ∧ b.highs.length ≤ 1000000000000000 := by
  obtain ⟨cs, rfl, hsz⟩ := okWide_struct Try.underlying30 hv
  obtain ⟨fuel, hf⟩ := h
  obtain ⟨l⟩ := cs
  obtain ⟨xs, n, -, hx, hlen, hxl, hg⟩ := DataW.trod_struct Try.underlying30 hf
  rw [cells30] at hsz
  simp only [Prod.mk.injEq] at hx
  obtain ⟨rfl, -⟩ := hx
  match l, hsz, xs, hxl with
  | [k0, k1, k2, k3, k4, k5, k6, k7, k8, k9, k10, k11, k12, k13, k14, k15, k16, k17, k18, k19, k20], _, [y0, y1, y2, y3, y4, y5, y6, y7], _ =>
    have f0 : DataW.trod enc Try.prog w base spare held n 23 (([k0, k1, k2, k3, k4, k5, k6, k7, k8, k9, k10, k11, k12, k13, k14, k15, k16, k17, k18, k19, k20].drop 0).take (Try.prog.cellsOf 23)) = some y0 := hg 0 _ rfl
    rw [cells23] at f0
    change DataW.trod enc Try.prog w base spare held n 23 [k0, k1, k2, k3] = some y0 at f0
    have f1 : DataW.trod enc Try.prog w base spare held n 3 (([k0, k1, k2, k3, k4, k5, k6, k7, k8, k9, k10, k11, k12, k13, k14, k15, k16, k17, k18, k19, k20].drop 4).take (Try.prog.cellsOf 3)) = some y1 := hg 1 _ rfl
    rw [cells3] at f1
    change DataW.trod enc Try.prog w base spare held n 3 [k4] = some y1 at f1
    have f2 : DataW.trod enc Try.prog w base spare held n 24 (([k0, k1, k2, k3, k4, k5, k6, k7, k8, k9, k10, k11, k12, k13, k14, k15, k16, k17, k18, k19, k20].drop 5).take (Try.prog.cellsOf 24)) = some y2 := hg 2 _ rfl
    rw [cells24] at f2
    change DataW.trod enc Try.prog w base spare held n 24 [k5] = some y2 at f2
    have f3 : DataW.trod enc Try.prog w base spare held n 24 (([k0, k1, k2, k3, k4, k5, k6, k7, k8, k9, k10, k11, k12, k13, k14, k15, k16, k17, k18, k19, k20].drop 6).take (Try.prog.cellsOf 24)) = some y3 := hg 3 _ rfl
    rw [cells24] at f3
    change DataW.trod enc Try.prog w base spare held n 24 [k6] = some y3 at f3
    have f4 : DataW.trod enc Try.prog w base spare held n 26 (([k0, k1, k2, k3, k4, k5, k6, k7, k8, k9, k10, k11, k12, k13, k14, k15, k16, k17, k18, k19, k20].drop 7).take (Try.prog.cellsOf 26)) = some y4 := hg 4 _ rfl
    rw [cells26] at f4
    change DataW.trod enc Try.prog w base spare held n 26 [k7, k8] = some y4 at f4
    have f5 : DataW.trod enc Try.prog w base spare held n 26 (([k0, k1, k2, k3, k4, k5, k6, k7, k8, k9, k10, k11, k12, k13, k14, k15, k16, k17, k18, k19, k20].drop 9).take (Try.prog.cellsOf 26)) = some y5 := hg 5 _ rfl
    rw [cells26] at f5
    change DataW.trod enc Try.prog w base spare held n 26 [k9, k10] = some y5 at f5
    have f6 : DataW.trod enc Try.prog w base spare held n 28 (([k0, k1, k2, k3, k4, k5, k6, k7, k8, k9, k10, k11, k12, k13, k14, k15, k16, k17, k18, k19, k20].drop 11).take (Try.prog.cellsOf 28)) = some y6 := hg 6 _ rfl
    rw [cells28] at f6
    change DataW.trod enc Try.prog w base spare held n 28 [k11, k12, k13, k14, k15, k16, k17, k18, k19] = some y6 at f6
    have f7 : DataW.trod enc Try.prog w base spare held n 3 (([k0, k1, k2, k3, k4, k5, k6, k7, k8, k9, k10, k11, k12, k13, k14, k15, k16, k17, k18, k19, k20].drop 20).take (Try.prog.cellsOf 3)) = some y7 := hg 7 _ rfl
    rw [cells3] at f7
    change DataW.trod enc Try.prog w base spare held n 3 [k20] = some y7 at f7
    have i0 := ints_of 3 _ _ _ _ (by kernel_rfl) f0
    have i1 := ints_of 3 _ _ _ _ (by kernel_rfl) f1
    have i4 := ints_of 3 _ _ _ _ (by kernel_rfl) f4
    have i5 := ints_of 3 _ _ _ _ (by kernel_rfl) f5
    have i6 := ints_of 3 _ _ _ _ (by kernel_rfl) f6
    have i7 := ints_of 3 _ _ _ _ (by kernel_rfl) f7
    obtain ⟨A1, xs1, c1, hc1, hr1, hl1⟩ := open_row Snd.cs deSnd 4 3 deSnd_cs Try.underlying24 (by kernel_rfl) (by omega) (by kernel_rfl) f2
    obtain ⟨A2, xs2, c2, hc2, hr2, hl2⟩ := open_row Snd.cs deSnd 4 3 deSnd_cs Try.underlying24 (by kernel_rfl) (by omega) (by kernel_rfl) f3
    simp only [List.cons.injEq, and_true] at hc1 hc2
    subst hc1 hc2
    have hm1 : xs1.length ≤ 1000000000000000 := by
      rcases hl1 with rfl | ⟨es, sp, he, hel⟩
      · simp
      · rw [← hel]
        have := size_part Try.underlying30 hz (j := 2) rfl (d := y2.1) rfl
        rw [he] at this
        exact size_slice Try.underlying24 this (of_decide_eq_true (by kernel_rfl))
    have hm2 : xs2.length ≤ 1000000000000000 := by
      rcases hl2 with rfl | ⟨es, sp, he, hel⟩
      · simp
      · rw [← hel]
        have := size_part Try.underlying30 hz (j := 3) rfl (d := y3.1) rfl
        rw [he] at this
        exact size_slice Try.underlying24 this (of_decide_eq_true (by kernel_rfl))
    obtain ⟨z0, rfl, -⟩ := i0 k0 (by simp)
    obtain ⟨z1, rfl, -⟩ := i0 k1 (by simp)
    obtain ⟨z2, rfl, -⟩ := i0 k2 (by simp)
    obtain ⟨z3, rfl, -⟩ := i0 k3 (by simp)
    obtain ⟨z4, rfl, -⟩ := i1 k4 (by simp)
    obtain ⟨z7, rfl, -⟩ := i4 k7 (by simp)
    obtain ⟨z8, rfl, -⟩ := i4 k8 (by simp)
    obtain ⟨z9, rfl, -⟩ := i5 k9 (by simp)
    obtain ⟨z10, rfl, -⟩ := i5 k10 (by simp)
    obtain ⟨z11, rfl, -⟩ := i6 k11 (by simp)
    obtain ⟨z12, rfl, -⟩ := i6 k12 (by simp)
    obtain ⟨z13, rfl, -⟩ := i6 k13 (by simp)
    obtain ⟨z14, rfl, -⟩ := i6 k14 (by simp)
    obtain ⟨z15, rfl, -⟩ := i6 k15 (by simp)
    obtain ⟨z16, rfl, -⟩ := i6 k16 (by simp)
    obtain ⟨z17, rfl, -⟩ := i6 k17 (by simp)
    obtain ⟨z18, rfl, -⟩ := i6 k18 (by simp)
    obtain ⟨z19, rfl, -⟩ := i6 k19 (by simp)
    obtain ⟨z20, rfl, -⟩ := i7 k20 (by simp)
    exact ⟨⟨⟨z0, z1, z2, z3⟩, z4, xs1, xs2, ⟨z7, z8⟩, ⟨z9, z10⟩, ⟨⟨z11, z12⟩, ⟨z13, z14⟩, ⟨z15, z16⟩, ⟨z17, z18⟩, z19⟩, z20⟩, A1, A2, c1, c2, rfl, hr1, hr2, hm1, hm2⟩

end Go.Proofs.Ytnclljamcfoolaa
namespace Go.Proofs.Ytnclljamcfoolaa
open Go.ChangeShapes Go.WideShapes Go.RowKit Go.Deep
set_option linter.unusedVariables false
set_option linter.unusedSimpArgs false

section
variable {H : Type} {enc : TypeId × Value → H} {P : Program} {w : World} {base : Nat} {spare : Nat → Bool} {held : Bool}
theorem open_row2 {α : Type} (en : α → List Value) (de : List Int → α) (sz n : Nat) {t e : TypeId} {fuel : Nat} {cs : List Value} {x : DataW H × List MemPlace} (hd : ∀ l : List Int, l.length = sz → en (de l) = l.map (Value.int .i64)) (ht : P.underlying t = some (.slice e)) (hsz : P.cellsOf e = sz) (hsz0 : 0 < sz) (hi : intsB P n e = true)
    (h : DataW.trod enc P w base spare held fuel t cs = some x) :
    ∃ (A : Option Addr) (xs : List α) (cap : Nat), cs = [.slice A xs.length cap] ∧ Row en sz w A xs ∧ (xs = [] ∨ ∃ es sp, x.1 = .slice es sp ∧ es.length = xs.length) ∧ ((A = none ∧ cap = 0 ∧ xs = []) ∨ ∃ ad, A = some ad) := by
  obtain ⟨A, xs, cap, h1, h2, h3⟩ := open_row en de sz n hd ht hsz hsz0 hi h
  refine ⟨A, xs, cap, h1, h2, h3, ?_⟩
  rcases open_slice ht h with ⟨h4, -⟩ | ⟨a, len, cap2, m, k, D, Pl, h4, -⟩
  · rw [h1] at h4
    simp only [List.cons.injEq, Value.slice.injEq, and_true] at h4
    exact .inl ⟨h4.1, h4.2.2, List.length_eq_zero_iff.1 h4.2.1⟩
  · rw [h1] at h4
    simp only [List.cons.injEq, Value.slice.injEq, and_true] at h4
    exact .inr ⟨a, h4.1⟩
end
def deRg (l : List Int) : Rg := ⟨l.getD 0 0, l.getD 1 0⟩
theorem deRg_cs (l : List Int) (h : l.length = 2) : Rg.cs (deRg l) = l.map (Value.int .i64) := by
  match l, h with
  | [a, b], _ => rfl
def deRd (l : List Int) : Rd := ⟨l.getD 0 0, l.getD 1 0, l.getD 2 0, l.getD 3 0, ⟨l.getD 4 0, l.getD 5 0⟩⟩
theorem deRd_cs (l : List Int) (h : l.length = 6) : Rd.cs (deRd l) = l.map (Value.int .i64) := by
  match l, h with
  | [a, b, c, d, e, f], _ => rfl

set_option maxRecDepth 100000 in
theorem open_job {H : Type} {enc : TypeId × Value → H} {w : World} {r : Reach} {b0 base : Nat} {spare : Nat → Bool} {held : Bool} {v : Value} {d : DataW H} {p : List MemPlace} (hv : Value.okWide Try.prog w r b0 51 v) (h : DataW.Trod enc Try.prog w base spare held 51 v d p) (hz : ∀ n ∈ d.weights Try.prog 51, n ≤ reachBytes) :
    ∃ (j : Job) (A : Option Addr) (c : Nat), v = j.v A c ∧ Row Rg.cs 2 w A j.shifts ∧ j.shifts.length ≤ 1000000000000000 := by
  obtain ⟨cs, rfl, hsz⟩ := okWide_struct Try.underlying51 hv
  obtain ⟨fuel, hf⟩ := h
  obtain ⟨l⟩ := cs
  obtain ⟨xs, n, -, hx, hlen, hxl, hg⟩ := DataW.trod_struct Try.underlying51 hf
  rw [show Try.prog.cellsOf 51 = 18 by kernel_rfl] at hsz
  simp only [Prod.mk.injEq] at hx
  obtain ⟨rfl, -⟩ := hx
  match l, hsz, xs, hxl with
  | [k0, k1, k2, k3, k4, k5, k6, k7, k8, k9, k10, k11, k12, k13, k14, k15, k16, k17], _, [y0, y1, y2, y3, y4], _ =>
    have f0 : DataW.trod enc Try.prog w base spare held n 49 (([k0, k1, k2, k3, k4, k5, k6, k7, k8, k9, k10, k11, k12, k13, k14, k15, k16, k17].drop 0).take (Try.prog.cellsOf 49)) = some y0 := hg 0 _ rfl
    rw [show Try.prog.cellsOf 49 = 6 by kernel_rfl] at f0
    change DataW.trod enc Try.prog w base spare held n 49 [k0, k1, k2, k3, k4, k5] = some y0 at f0
    have i0 := ints_of 4 _ _ _ _ (by kernel_rfl) f0
    have f1 : DataW.trod enc Try.prog w base spare held n 28 (([k0, k1, k2, k3, k4, k5, k6, k7, k8, k9, k10, k11, k12, k13, k14, k15, k16, k17].drop 6).take (Try.prog.cellsOf 28)) = some y1 := hg 1 _ rfl
    rw [show Try.prog.cellsOf 28 = 9 by kernel_rfl] at f1
    change DataW.trod enc Try.prog w base spare held n 28 [k6, k7, k8, k9, k10, k11, k12, k13, k14] = some y1 at f1
    have i1 := ints_of 4 _ _ _ _ (by kernel_rfl) f1
    have f2 : DataW.trod enc Try.prog w base spare held n 34 (([k0, k1, k2, k3, k4, k5, k6, k7, k8, k9, k10, k11, k12, k13, k14, k15, k16, k17].drop 15).take (Try.prog.cellsOf 34)) = some y2 := hg 2 _ rfl
    rw [show Try.prog.cellsOf 34 = 1 by kernel_rfl] at f2
    change DataW.trod enc Try.prog w base spare held n 34 [k15] = some y2 at f2
    have f3 : DataW.trod enc Try.prog w base spare held n 3 (([k0, k1, k2, k3, k4, k5, k6, k7, k8, k9, k10, k11, k12, k13, k14, k15, k16, k17].drop 16).take (Try.prog.cellsOf 3)) = some y3 := hg 3 _ rfl
    rw [show Try.prog.cellsOf 3 = 1 by kernel_rfl] at f3
    change DataW.trod enc Try.prog w base spare held n 3 [k16] = some y3 at f3
    have i3 := ints_of 4 _ _ _ _ (by kernel_rfl) f3
    have f4 : DataW.trod enc Try.prog w base spare held n 3 (([k0, k1, k2, k3, k4, k5, k6, k7, k8, k9, k10, k11, k12, k13, k14, k15, k16, k17].drop 17).take (Try.prog.cellsOf 3)) = some y4 := hg 4 _ rfl
    rw [show Try.prog.cellsOf 3 = 1 by kernel_rfl] at f4
    change DataW.trod enc Try.prog w base spare held n 3 [k17] = some y4 at f4
    have i4 := ints_of 4 _ _ _ _ (by kernel_rfl) f4
    obtain ⟨z0, rfl, -⟩ := i0 k0 (by simp)
    obtain ⟨z1, rfl, -⟩ := i0 k1 (by simp)
    obtain ⟨z2, rfl, -⟩ := i0 k2 (by simp)
    obtain ⟨z3, rfl, -⟩ := i0 k3 (by simp)
    obtain ⟨z4, rfl, -⟩ := i0 k4 (by simp)
    obtain ⟨z5, rfl, -⟩ := i0 k5 (by simp)
    obtain ⟨z6, rfl, -⟩ := i1 k6 (by simp)
    obtain ⟨z7, rfl, -⟩ := i1 k7 (by simp)
    obtain ⟨z8, rfl, -⟩ := i1 k8 (by simp)
    obtain ⟨z9, rfl, -⟩ := i1 k9 (by simp)
    obtain ⟨z10, rfl, -⟩ := i1 k10 (by simp)
    obtain ⟨z11, rfl, -⟩ := i1 k11 (by simp)
    obtain ⟨z12, rfl, -⟩ := i1 k12 (by simp)
    obtain ⟨z13, rfl, -⟩ := i1 k13 (by simp)
    obtain ⟨z14, rfl, -⟩ := i1 k14 (by simp)
    obtain ⟨A2, xs2, c2, hc2, hr2, hl2, hA2⟩ := open_row2 Rg.cs deRg 2 4 deRg_cs Try.underlying34 (by kernel_rfl) (by omega) (by kernel_rfl) f2
    simp only [List.cons.injEq, and_true] at hc2
    subst hc2
    have hm2 : xs2.length ≤ 1000000000000000 := by
      rcases hl2 with rfl | ⟨es, sp, he, hel⟩
      · simp
      · rw [← hel]
        have := size_part Try.underlying51 hz (j := 2) rfl (d := y2.1) rfl
        rw [he] at this
        exact size_slice Try.underlying34 this (of_decide_eq_true (by kernel_rfl))
    obtain ⟨z16, rfl, -⟩ := i3 k16 (by simp)
    obtain ⟨z17, rfl, -⟩ := i4 k17 (by simp)
    exact ⟨⟨⟨⟨z0, z1⟩, ⟨z2, z3⟩, ⟨z4, z5⟩⟩, ⟨⟨z6, z7⟩, ⟨z8, z9⟩, ⟨z10, z11⟩, ⟨z12, z13⟩, z14⟩, xs2, z16, z17⟩, A2, c2, rfl, hr2, hm2⟩
set_option maxRecDepth 100000 in
theorem open_ear {H : Type} {enc : TypeId × Value → H} {w : World} {r : Reach} {b0 base : Nat} {spare : Nat → Bool} {held : Bool} {v : Value} {d : DataW H} {p : List MemPlace} (hv : Value.okWide Try.prog w r b0 41 v) (h : DataW.Trod enc Try.prog w base spare held 41 v d p) (hz : ∀ n ∈ d.weights Try.prog 41, n ≤ reachBytes) :
    ∃ (e : Ear) (A1 A2 : Option Addr) (c1 c2 : Nat), v = .agg #[.int .i64 e.slack, .slice A1 e.tones.length c1, .slice A2 e.reads.length c2] ∧ Row Rg.cs 2 w A1 e.tones ∧ Row Rd.cs 6 w A2 e.reads ∧ e.tones.length ≤ 1000000000000000 ∧ e.reads.length ≤ 1000000000000000 ∧ ((A2 = none ∧ c2 = 0 ∧ e.reads = []) ∨ ∃ ad, A2 = some ad) := by
  obtain ⟨cs, rfl, hsz⟩ := okWide_struct Try.underlying41 hv
  obtain ⟨fuel, hf⟩ := h
  obtain ⟨l⟩ := cs
  obtain ⟨xs, n, -, hx, hlen, hxl, hg⟩ := DataW.trod_struct Try.underlying41 hf
  rw [show Try.prog.cellsOf 41 = 3 by kernel_rfl] at hsz
  simp only [Prod.mk.injEq] at hx
  obtain ⟨rfl, -⟩ := hx
  match l, hsz, xs, hxl with
  | [k0, k1, k2], _, [y0, y1, y2], _ =>
    have f0 : DataW.trod enc Try.prog w base spare held n 3 (([k0, k1, k2].drop 0).take (Try.prog.cellsOf 3)) = some y0 := hg 0 _ rfl
    rw [show Try.prog.cellsOf 3 = 1 by kernel_rfl] at f0
    change DataW.trod enc Try.prog w base spare held n 3 [k0] = some y0 at f0
    have i0 := ints_of 4 _ _ _ _ (by kernel_rfl) f0
    have f1 : DataW.trod enc Try.prog w base spare held n 34 (([k0, k1, k2].drop 1).take (Try.prog.cellsOf 34)) = some y1 := hg 1 _ rfl
    rw [show Try.prog.cellsOf 34 = 1 by kernel_rfl] at f1
    change DataW.trod enc Try.prog w base spare held n 34 [k1] = some y1 at f1
    have f2 : DataW.trod enc Try.prog w base spare held n 39 (([k0, k1, k2].drop 2).take (Try.prog.cellsOf 39)) = some y2 := hg 2 _ rfl
    rw [show Try.prog.cellsOf 39 = 1 by kernel_rfl] at f2
    change DataW.trod enc Try.prog w base spare held n 39 [k2] = some y2 at f2
    obtain ⟨z0, rfl, -⟩ := i0 k0 (by simp)
    obtain ⟨A1, xs1, c1, hc1, hr1, hl1, hA1⟩ := open_row2 Rg.cs deRg 2 4 deRg_cs Try.underlying34 (by kernel_rfl) (by omega) (by kernel_rfl) f1
    simp only [List.cons.injEq, and_true] at hc1
    subst hc1
    have hm1 : xs1.length ≤ 1000000000000000 := by
      rcases hl1 with rfl | ⟨es, sp, he, hel⟩
      · simp
      · rw [← hel]
        have := size_part Try.underlying41 hz (j := 1) rfl (d := y1.1) rfl
        rw [he] at this
        exact size_slice Try.underlying34 this (of_decide_eq_true (by kernel_rfl))
    obtain ⟨A2, xs2, c2, hc2, hr2, hl2, hA2⟩ := open_row2 Rd.cs deRd 6 4 deRd_cs Try.underlying39 (by kernel_rfl) (by omega) (by kernel_rfl) f2
    simp only [List.cons.injEq, and_true] at hc2
    subst hc2
    have hm2 : xs2.length ≤ 1000000000000000 := by
      rcases hl2 with rfl | ⟨es, sp, he, hel⟩
      · simp
      · rw [← hel]
        have := size_part Try.underlying41 hz (j := 2) rfl (d := y2.1) rfl
        rw [he] at this
        exact size_slice Try.underlying39 this (of_decide_eq_true (by kernel_rfl))
    exact ⟨⟨z0, xs1, xs2⟩, A1, A2, c1, c2, rfl, hr1, hr2, hm1, hm2, hA2⟩
set_option maxRecDepth 100000 in
theorem open_reading {H : Type} {enc : TypeId × Value → H} {w : World} {r : Reach} {b0 base : Nat} {spare : Nat → Bool} {held : Bool} {v : Value} {d : DataW H} {p : List MemPlace} (hv : Value.okWide Try.prog w r b0 53 v) (h : DataW.Trod enc Try.prog w base spare held 53 v d p) (hz : ∀ n ∈ d.weights Try.prog 53, n ≤ reachBytes) :
    ∃ r : Rd, v = .agg #[.int .i64 r.kind, .int .i64 r.a, .int .i64 r.b, .int .i64 r.secs, .int .i64 r.shown.mn, .int .i64 r.shown.mx] := by
  obtain ⟨cs, rfl, hsz⟩ := okWide_struct Try.underlying53 hv
  obtain ⟨fuel, hf⟩ := h
  obtain ⟨l⟩ := cs
  obtain ⟨xs, n, -, hx, hlen, hxl, hg⟩ := DataW.trod_struct Try.underlying53 hf
  rw [show Try.prog.cellsOf 53 = 6 by kernel_rfl] at hsz
  simp only [Prod.mk.injEq] at hx
  obtain ⟨rfl, -⟩ := hx
  match l, hsz, xs, hxl with
  | [k0, k1, k2, k3, k4, k5], _, [y0, y1, y2, y3, y4], _ =>
    have f0 : DataW.trod enc Try.prog w base spare held n 3 (([k0, k1, k2, k3, k4, k5].drop 0).take (Try.prog.cellsOf 3)) = some y0 := hg 0 _ rfl
    rw [show Try.prog.cellsOf 3 = 1 by kernel_rfl] at f0
    change DataW.trod enc Try.prog w base spare held n 3 [k0] = some y0 at f0
    have i0 := ints_of 4 _ _ _ _ (by kernel_rfl) f0
    have f1 : DataW.trod enc Try.prog w base spare held n 3 (([k0, k1, k2, k3, k4, k5].drop 1).take (Try.prog.cellsOf 3)) = some y1 := hg 1 _ rfl
    rw [show Try.prog.cellsOf 3 = 1 by kernel_rfl] at f1
    change DataW.trod enc Try.prog w base spare held n 3 [k1] = some y1 at f1
    have i1 := ints_of 4 _ _ _ _ (by kernel_rfl) f1
    have f2 : DataW.trod enc Try.prog w base spare held n 3 (([k0, k1, k2, k3, k4, k5].drop 2).take (Try.prog.cellsOf 3)) = some y2 := hg 2 _ rfl
    rw [show Try.prog.cellsOf 3 = 1 by kernel_rfl] at f2
    change DataW.trod enc Try.prog w base spare held n 3 [k2] = some y2 at f2
    have i2 := ints_of 4 _ _ _ _ (by kernel_rfl) f2
    have f3 : DataW.trod enc Try.prog w base spare held n 3 (([k0, k1, k2, k3, k4, k5].drop 3).take (Try.prog.cellsOf 3)) = some y3 := hg 3 _ rfl
    rw [show Try.prog.cellsOf 3 = 1 by kernel_rfl] at f3
    change DataW.trod enc Try.prog w base spare held n 3 [k3] = some y3 at f3
    have i3 := ints_of 4 _ _ _ _ (by kernel_rfl) f3
    have f4 : DataW.trod enc Try.prog w base spare held n 26 (([k0, k1, k2, k3, k4, k5].drop 4).take (Try.prog.cellsOf 26)) = some y4 := hg 4 _ rfl
    rw [show Try.prog.cellsOf 26 = 2 by kernel_rfl] at f4
    change DataW.trod enc Try.prog w base spare held n 26 [k4, k5] = some y4 at f4
    have i4 := ints_of 4 _ _ _ _ (by kernel_rfl) f4
    obtain ⟨z0, rfl, -⟩ := i0 k0 (by simp)
    obtain ⟨z1, rfl, -⟩ := i1 k1 (by simp)
    obtain ⟨z2, rfl, -⟩ := i2 k2 (by simp)
    obtain ⟨z3, rfl, -⟩ := i3 k3 (by simp)
    obtain ⟨z4, rfl, -⟩ := i4 k4 (by simp)
    obtain ⟨z5, rfl, -⟩ := i4 k5 (by simp)
    exact ⟨⟨z0, z1, z2, z3, ⟨z4, z5⟩⟩, rfl⟩
end Go.Proofs.Ytnclljamcfoolaa
