/- Walk of meter.With for an ear of one tone with counts. -/
import Derived.Test.YtnclljamcfoolaaHd11
import Derived.Test.YtnclljamcfoolaaHd10
namespace Go.Proofs.Ytnclljamcfoolaa
open Go.RowKit Go.Shelf Go.Maps
set_option linter.unusedVariables false
set_option linter.unusedSimpArgs false

@[reducible] def Rd.v (r : Rd) : Value := .agg #[.int .i64 r.kind, .int .i64 r.a, .int .i64 r.b, .int .i64 r.secs, .int .i64 r.shown.mn, .int .i64 r.shown.mx]
@[reducible] def ear0 : Value := .agg #[.int .i64 0, .slice none 0 0, .slice none 0 0]
/-- the error of one reading more, but that it may contradict -/
def moreErr (ls : List Ct) (r : Rd) : Int := if readErr r 1 ≠ 0 then readErr r 1 else if ls.length = 6 then 6 else 0

set_option maxRecDepth 100000 in
set_option maxHeartbeats 4000000 in
theorem with13_bad (slack : Int) (x : Rg) (ls : List Ct) (r : Rd) (hl6 : ls.length ≤ 6) (he : earErr (earC slack x ls) = 0) (b o c1 : Nat) (A2 : Option Addr) (c2 : Nat) (w : World) (h1 : Row Rg.cs 2 w (some ⟨b, o, none⟩) [x]) (h2 : Row Rd.cs 6 w A2 (ls.map Ct.rd)) (E : Int) (hE : readErr r 1 = E) (hE0 : E ≠ 0) :
    Calls Try.prog 13 #[.agg #[.int .i64 slack, .slice (some ⟨b, o, none⟩) 1 c1, .slice A2 ls.length c2], r.v] w fun ed w' => ed = .returned (.tuple #[ear0, .int .i64 E]) ∧ Below w.heap.size w w' := by
  have hC := Lib.hid (meterCheck_calls (earC slack x ls) (some ⟨b, o, none⟩) A2 c1 c2)
  rw [he] at hC
  simp only [earC, List.length_map, List.length_cons, List.length_nil, Nat.zero_add] at hC
  have hCR := Lib.hid (fun w => checkReading_calls r 1 w (by omega))
  rw [show ((1 : Nat) : Int) = 1 from rfl] at hCR
  rw [hE] at hCR
  have hEb : (E != 0) = true := by simpa using hE0
  go_enter Try.func13, Try.ntmps13
  go_upto_region 1 with (fail)
  generalize hW : ((w.alloc _).alloc _).alloc _ = W
  generalize h3_ : w.heap.size + 1 + 1 = g3
  generalize h2_ : w.heap.size + 1 = g2
  generalize h1_ : w.heap.size = g1
  obtain ⟨hB0_, Hg1, Hg2, Hg3, kg1, kg2, kg3, fg1, fg2, fg3, lg1, lg2, lg3, bg1, bg2, bg3, ng12, ng13, ng21, ng23, ng31, ng32⟩ := gen3 w _ _ _ _ _ _ hW h3_ h2_ h1_
  clear hW h1_ h2_ h3_
  have H0W := Lib.hid hB0_
  clear hB0_
  have HHg1 := Lib.hid Hg1
  have HHg2 := Lib.hid Hg2
  have HHg3 := Lib.hid Hg3
  clear Hg1 Hg2 Hg3
  have HB := Lib.hid (Below.refl W.heap.size W)
  have HR := Lib.hid (h1.below H0W.out)
  have HR2 := Lib.hid (h2.below H0W.out)
  clear h1 h2 hE
  go_wp2_with (first
    | ((with_reducible refine ld_gate 41 rfl ?_); refine wpList_load_row rfl 41 _ rfl g1 rfl 41 _ (0, 0) _ ((HB.out.block _ lg1).trans HHg1.out) Try.underlying41 rfl size41 ?_)
    | ((with_reducible refine ld_gate 53 rfl ?_); refine wpList_load_row rfl 53 _ rfl g2 rfl 53 _ (0, 0) _ ((HB.out.block _ lg2).trans HHg2.out) Try.underlying53 rfl size53 ?_)
    | (go_at_call 49; refine (hC.out _ (HR.out.below HB.out) (HR2.out.below HB.out) (by omega) (by omega)).mono ?_; rintro e_ w1 ⟨rfl, hb_⟩; have HB_ := Lib.hid (bl_then2 (by (repeat (with_reducible first | exact HB.out | apply bl_alloc2 | apply bl_drew2 | apply bl_drewN2))) hb_); clear HB hb_; (try clear hq); have HB := HB_; clear HB_; have hq := CB.of HB.out)
    | (go_at_call 50; refine (hCR.out _).mono ?_; rintro e_ w1 ⟨rfl, hb_⟩; have HB_ := Lib.hid (bl_then2 (by (repeat (with_reducible first | exact HB.out | apply bl_alloc2 | apply bl_drew2 | apply bl_drewN2))) hb_); clear HB hb_; (try clear hq); have HB := HB_; clear HB_; have hq := CB.of HB.out)
    | ((with_reducible refine st_gate 41 rfl ?_); refine wpList_store_row rfl 41 _ _ rfl g3 _ rfl rfl 41 _ ((HB.out.block _ lg3).trans HHg3.out) size41 (by simp) (by simp [Value.oneCell']) ?_))
  exact ret_row_tmp rfl g3 41 _ _ rfl (setRow_heap ((HB.out.block _ lg3).trans HHg3.out)) Try.underlying41 rfl size41 rfl ⟨rfl, bl_setRow (bl_then H0W.out HB.out) bg3 _⟩

set_option maxRecDepth 100000 in
set_option maxHeartbeats 4000000 in
theorem with13_many (slack : Int) (x : Rg) (ls : List Ct) (r : Rd) (h6 : ls.length = 6) (he : earErr (earC slack x ls) = 0) (b o c1 : Nat) (A2 : Option Addr) (c2 : Nat) (w : World) (h1 : Row Rg.cs 2 w (some ⟨b, o, none⟩) [x]) (h2 : Row Rd.cs 6 w A2 (ls.map Ct.rd)) (hE : readErr r 1 = 0) :
    Calls Try.prog 13 #[.agg #[.int .i64 slack, .slice (some ⟨b, o, none⟩) 1 c1, .slice A2 ls.length c2], r.v] w fun ed w' => ed = .returned (.tuple #[ear0, .int .i64 6]) ∧ Below w.heap.size w w' := by
  have hC := Lib.hid (meterCheck_calls (earC slack x ls) (some ⟨b, o, none⟩) A2 c1 c2)
  rw [he] at hC
  simp only [earC, List.length_map, List.length_cons, List.length_nil, Nat.zero_add] at hC
  have hCR := Lib.hid (fun w => checkReading_calls r 1 w (by omega))
  rw [show ((1 : Nat) : Int) = 1 from rfl] at hCR
  rw [hE] at hCR
  rw [h6] at *
  clear h6
  go_enter Try.func13, Try.ntmps13
  go_upto_region 1 with (fail)
  generalize hW : ((w.alloc _).alloc _).alloc _ = W
  generalize h3_ : w.heap.size + 1 + 1 = g3
  generalize h2_ : w.heap.size + 1 = g2
  generalize h1_ : w.heap.size = g1
  obtain ⟨hB0_, Hg1, Hg2, Hg3, kg1, kg2, kg3, fg1, fg2, fg3, lg1, lg2, lg3, bg1, bg2, bg3, ng12, ng13, ng21, ng23, ng31, ng32⟩ := gen3 w _ _ _ _ _ _ hW h3_ h2_ h1_
  clear hW h1_ h2_ h3_
  have H0W := Lib.hid hB0_
  clear hB0_
  have HHg1 := Lib.hid Hg1
  have HHg2 := Lib.hid Hg2
  have HHg3 := Lib.hid Hg3
  clear Hg1 Hg2 Hg3
  have HB := Lib.hid (Below.refl W.heap.size W)
  have HR := Lib.hid (h1.below H0W.out)
  have HR2 := Lib.hid (h2.below H0W.out)
  clear h1 h2 hE
  go_wp2_with (first
    | ((with_reducible refine ld_gate 41 rfl ?_); refine wpList_load_row rfl 41 _ rfl g1 rfl 41 _ (0, 0) _ ((HB.out.block _ lg1).trans HHg1.out) Try.underlying41 rfl size41 ?_)
    | ((with_reducible refine ld_gate 53 rfl ?_); refine wpList_load_row rfl 53 _ rfl g2 rfl 53 _ (0, 0) _ ((HB.out.block _ lg2).trans HHg2.out) Try.underlying53 rfl size53 ?_)
    | (go_at_call 49; refine (hC.out _ (HR.out.below HB.out) (HR2.out.below HB.out) (by omega) (by omega)).mono ?_; rintro e_ w1 ⟨rfl, hb_⟩; have HB_ := Lib.hid (bl_then2 (by (repeat (with_reducible first | exact HB.out | apply bl_alloc2 | apply bl_drew2 | apply bl_drewN2))) hb_); clear HB hb_; (try clear hq); have HB := HB_; clear HB_; have hq := CB.of HB.out)
    | (go_at_call 50; refine (hCR.out _).mono ?_; rintro e_ w1 ⟨rfl, hb_⟩; have HB_ := Lib.hid (bl_then2 (by (repeat (with_reducible first | exact HB.out | apply bl_alloc2 | apply bl_drew2 | apply bl_drewN2))) hb_); clear HB hb_; (try clear hq); have HB := HB_; clear HB_; have hq := CB.of HB.out)
    | ((with_reducible refine st_gate 41 rfl ?_); refine wpList_store_row rfl 41 _ _ rfl g3 _ rfl rfl 41 _ ((HB.out.block _ lg3).trans HHg3.out) size41 (by simp) (by simp [Value.oneCell']) ?_))
  exact ret_row_tmp rfl g3 41 _ _ rfl (setRow_heap ((HB.out.block _ lg3).trans HHg3.out)) Try.underlying41 rfl size41 rfl ⟨rfl, bl_setRow (bl_then H0W.out HB.out) bg3 _⟩

theorem own_wrote {w w' : World} {g base e size n : Nat} {v : Value} {xs : List Value} (h : w.ownsRow base e size v n xs) (hw : Wrote w w' g) (hg : g < base) : w'.ownsRow base e size v n xs := by
  obtain ⟨q1, q2 | ⟨gq, capq, curq, q3, q4, q5, q6⟩⟩ := h
  · exact ⟨q1, .inl q2⟩
  · exact ⟨q1, .inr ⟨gq, capq, curq, q3, q4, (hw.block gq (by omega)).trans q5, q6⟩⟩
theorem size34 : (Try.prog.info? 34).map (·.size) = some 1 := by kernel_rfl
theorem size39 : (Try.prog.info? 39).map (·.size) = some 1 := by kernel_rfl
/-- an ear with one count more that has a truth, as it is handed back -/
def MoreV (slack : Int) (x : Rg) (ls : List Ct) (base : Nat) (v : Value) (w : World) : Prop :=
  ∃ g c A2 c2, v = .agg #[.int .i64 slack, .slice (some ⟨g, 0, none⟩) 1 c, .slice A2 ls.length c2] ∧ Row Rg.cs 2 w (some ⟨g, 0, none⟩) [x] ∧ Row Rd.cs 6 w A2 (ls.map Ct.rd)

set_option maxRecDepth 100000 in
set_option maxHeartbeats 4000000 in
theorem with13_ok (slack : Int) (x : Rg) (ls : List Ct) (r : Ct) (h6 : ls.length < 6) (he : earErr (earC slack x ls) = 0) (hls : ∀ r ∈ ls, r.Ok) (hr : r.Ok) (b o c1 : Nat) (A2 : Option Addr) (c2 : Nat) (hA : (A2 = none ∧ c2 = 0 ∧ ls = []) ∨ ∃ ad, A2 = some ad) (w : World) (h1 : Row Rg.cs 2 w (some ⟨b, o, none⟩) [x]) (h2 : Row Rd.cs 6 w A2 (ls.map Ct.rd)) :
    Calls Try.prog 13 #[.agg #[.int .i64 slack, .slice (some ⟨b, o, none⟩) 1 c1, .slice A2 ls.length c2], r.v] w fun ed w' => (∃ v k, ed = .returned (.tuple #[v, .int .i64 k]) ∧ Hid ((keptC slack x (ls ++ [r]) = [] ∧ v = ear0 ∧ k = 9) ∨ (keptC slack x (ls ++ [r]) ≠ [] ∧ k = 0 ∧ MoreV slack x (ls ++ [r]) w.heap.size v w'))) ∧ Below w.heap.size w w' := by
  have hC := Lib.hid (meterCheck_calls (earC slack x ls) (some ⟨b, o, none⟩) A2 c1 c2)
  rw [he] at hC
  simp only [earC, List.length_map, List.length_cons, List.length_nil, Nat.zero_add] at hC
  obtain ⟨hsl, hbx, -, hx20⟩ := earC_bd he
  have hrd : readErr r.rd 1 = 0 := by
    obtain ⟨a1, a2, a3, a4, a5⟩ := hr
    have b2 : r.shown.mn ≤ 25000 := by omega
    have b3 : 0 ≤ r.shown.mx := by omega
    have b4 : ¬ r.shown.mx < r.shown.mn := by omega
    simp [readErr, Ct.rd, inB, *]
  have hCR := Lib.hid (fun w => checkReading_calls r.rd 1 w (by omega))
  rw [show ((1 : Nat) : Int) = 1 from rfl] at hCR
  rw [hrd] at hCR
  simp only [Ct.rd] at hCR
  have h6b : (((ls.length : Nat) : Int) == 6) = false := by simp; omega
  have HC1 := Lib.hid (fun w h => clone51_calls [x] (by simp) (some ⟨b, o, none⟩) c1 (.inr ⟨_, rfl⟩) w h)
  simp only [List.length_cons, List.length_nil, Nat.zero_add] at HC1
  have HC2 := Lib.hid (fun w h => clone52_calls (ls.map Ct.rd) (by simp; omega) A2 c2 (by rcases hA with ⟨a, b, c⟩ | h; exact .inl ⟨a, b, by simp [c]⟩; exact .inr h) w h)
  simp only [List.length_map] at HC2
  have HM := Lib.hid (fun g c A2 c2 w h1 h2 => mayR_calls slack x (ls ++ [r]) (fun q hq => by rcases List.mem_append.1 hq with h | h; exact hls q h; simp at h; subst h; exact hr) (by simp; omega) hsl hbx g 0 c A2 c2 w h1 h2)
  simp only [List.length_append, List.length_cons, List.length_nil, Nat.zero_add] at HM
  clear he hrd hA hsl hbx hx20 hls hr
  go_enter Try.func13, Try.ntmps13
  go_upto_region 1 with (fail)
  generalize hW : ((w.alloc _).alloc _).alloc _ = W
  generalize h3_ : w.heap.size + 1 + 1 = g3
  generalize h2_ : w.heap.size + 1 = g2
  generalize h1_ : w.heap.size = g1
  obtain ⟨hB0_, Hg1, Hg2, Hg3, kg1, kg2, kg3, fg1, fg2, fg3, lg1, lg2, lg3, bg1, bg2, bg3, ng12, ng13, ng21, ng23, ng31, ng32⟩ := gen3 w _ _ _ _ _ _ hW h3_ h2_ h1_
  clear hW h1_ h2_ h3_
  have H0W := Lib.hid hB0_
  clear hB0_
  have HHg1 := Lib.hid Hg1
  have HHg2 := Lib.hid Hg2
  have HHg3 := Lib.hid Hg3
  clear Hg1 Hg2 Hg3
  have HB := Lib.hid (Below.refl W.heap.size W)
  have HR := Lib.hid (h1.below H0W.out)
  have HR2 := Lib.hid (h2.below H0W.out)
  clear h1 h2
  go_upto_region 9 with (first
    | ((with_reducible refine ld_gate 41 rfl ?_); refine wpList_load_row rfl 41 _ rfl g1 rfl 41 _ (0, 0) _ ((HB.out.block _ lg1).trans HHg1.out) Try.underlying41 rfl size41 ?_)
    | ((with_reducible refine ld_gate 53 rfl ?_); refine wpList_load_row rfl 53 _ rfl g2 rfl 53 _ (0, 0) _ ((HB.out.block _ lg2).trans HHg2.out) Try.underlying53 rfl size53 ?_)
    | (go_at_call 49; refine (hC.out _ (HR.out.below HB.out) (HR2.out.below HB.out) (by omega) (by omega)).mono ?_; rintro e_ w1 ⟨rfl, hb_⟩; have HB_ := Lib.hid (bl_then2 (by (repeat (with_reducible first | exact HB.out | apply bl_alloc2 | apply bl_drew2 | apply bl_drewN2))) hb_); clear HB hb_; (try clear hq); have HB := HB_; clear HB_; have hq := CB.of HB.out)
    | (go_at_call 50; refine (hCR.out _).mono ?_; rintro e_ V ⟨rfl, hb_⟩; have HB_ := Lib.hid (bl_then2 (by (repeat (with_reducible first | exact HB.out | apply bl_alloc2 | apply bl_drew2 | apply bl_drewN2))) hb_); clear HB hb_; (try clear hq); have HB := HB_; clear HB_; have hq := CB.of HB.out))
  have HWW := Lib.hid HB.out
  have e1 := fun j => (hq.1 _ j lg1).trans (kg1 j)
  have e2 := fun j => (hq.1 _ j lg2).trans (kg2 j)
  have HRV := Lib.hid (HR.out.below HB.out)
  have HR2V := Lib.hid (HR2.out.below HB.out)
  have l1 := Nat.lt_of_lt_of_le lg1 HB.out.size
  have l2 := Nat.lt_of_lt_of_le lg2 HB.out.size
  have l3 := Nat.lt_of_lt_of_le lg3 HB.out.size
  clear HB hq kg1 kg2 kg3 fg1 fg2 fg3
  go_cut [] (fun wx => ∃ g c v2, wx.heap[g1]? = some (.cells #[.int .i64 slack, .slice (some ⟨g, 0, none⟩) 1 c, v2] 41 (0, 0)) ∧ wx.ownsRow V.heap.size 26 2 (.slice (some ⟨g, 0, none⟩) 1 c) 1 (flat Rg.cs [x]) ∧ wx.ownsRow V.heap.size 53 6 v2 (ls.length + 1) (flat Rd.cs ((ls ++ [r]).map Ct.rd)) ∧ Below w.heap.size w wx ∧ wx.heap[g3]? = V.heap[g3]?)
  case first =>
    obtain ⟨i0, hi, hz0, hz1, hz2⟩ := info_parts info53c
    have HG1 := Lib.hid ((HWW.out.block _ lg1).trans HHg1.out)
    refine wp_region_tail (S := fun w' => (∀ j, w'.cell? ⟨g1, j, none⟩ = #[Value.int .i64 slack, .slice (some ⟨b, o, none⟩) 1 c1, .slice A2 ls.length c2][j]?) ∧ (∀ j, w'.cell? ⟨g2, j, none⟩ = #[Value.int .i64 1, .int .i64 0, .int .i64 0, .int .i64 r.secs, .int .i64 r.shown.mn, .int .i64 r.shown.mx][j]?) ∧ Below V.heap.size V w') 10 _ _ (by kernel_rfl) rfl rfl (by decide) (by kernel_rfl) ⟨e1, e2, bl_drew (Below.refl _ _)⟩ (fun hHeld => ?_)
    simp only [Act.put, stillOf, List.set_cons_succ, List.set_cons_zero, List.setIfInBounds_toArray, List.getElem_toArray, List.getElem_cons_succ, List.getElem_cons_zero]
    refine wpAnyH_take (i := 0) (v := ?_) rfl (by kernel_rfl) (by kernel_rfl) (by kernel_rfl) (fun _ _ _ h => h) (Or.inl ⟨by rfl, ?_⟩) (by assumption) ?_; rotate_left 1; (focus ((intro w_ hS_; (try dsimp only at hS_); go_simp; first | done | with_reducible rfl))); simp only [Act.put, stillOf, List.set_cons_succ, List.set_cons_zero, List.setIfInBounds_toArray, List.getElem_toArray, List.getElem_cons_succ, List.getElem_cons_zero]
    refine wpAnyH_take (i := 1) (v := ?_) rfl (by kernel_rfl) (by kernel_rfl) (by kernel_rfl) (fun _ _ _ h => h) (Or.inl ⟨by rfl, ?_⟩) (by assumption) ?_; rotate_left 1; (focus ((intro w_ hS_; (try dsimp only at hS_); go_simp; first | done | with_reducible rfl))); simp only [Act.put, stillOf, List.set_cons_succ, List.set_cons_zero, List.setIfInBounds_toArray, List.getElem_toArray, List.getElem_cons_succ, List.getElem_cons_zero]
    refine wpAnyH_take (i := 3) (v := ?_) rfl (by kernel_rfl) (by kernel_rfl) (by kernel_rfl) (fun _ _ _ h => h) (Or.inl ⟨by rfl, ?_⟩) (by assumption) ?_; rotate_left 1; (focus ((intro w_ hS_; (try dsimp only at hS_); go_simp; first | done | with_reducible rfl))); simp only [Act.put, stillOf, List.set_cons_succ, List.set_cons_zero, List.setIfInBounds_toArray, List.getElem_toArray, List.getElem_cons_succ, List.getElem_cons_zero]
    refine wpAnyH_take (i := 4) (v := ?_) rfl (by kernel_rfl) (by kernel_rfl) (by kernel_rfl) (fun _ _ _ h => h) (Or.inl ⟨by rfl, ?_⟩) (by assumption) ?_; rotate_left 1; (focus ((intro w_ hS_; (try dsimp only at hS_); go_simp; first | done | with_reducible rfl))); simp only [Act.put, stillOf, List.set_cons_succ, List.set_cons_zero, List.setIfInBounds_toArray, List.getElem_toArray, List.getElem_cons_succ, List.getElem_cons_zero]
    refine wpAnyH_take (i := 6) (v := ?_) rfl (by kernel_rfl) (by kernel_rfl) (by kernel_rfl) (fun _ _ _ h => h) (Or.inl ⟨by rfl, ?_⟩) (by assumption) ?_; rotate_left 1; (focus ((intro w_ hS_; (try dsimp only at hS_); go_simp; first | done | with_reducible rfl))); simp only [Act.put, stillOf, List.set_cons_succ, List.set_cons_zero, List.setIfInBounds_toArray, List.getElem_toArray, List.getElem_cons_succ, List.getElem_cons_zero]
    have HB := Lib.hid (Below.refl V.heap.size V)
    refine wpAnyH_ready (rs := [2, 7]) (by kernel_rfl) (by simp) (AllReadyH.cons rfl (fun K hK => ?_) (AllReadyH.cons rfl (fun K hK => ?_) AllReadyH.nil))
    · go_simp
      (go_at_call 51; refine (HC1.out _ (HRV.out.below (by (repeat (with_reducible first | exact HB.out | apply bl_alloc2 | apply bl_drew2 | apply bl_drewN2))))).mono ?_; rintro e_ w1 ⟨v1, rfl, HO1, hb_⟩; have hx_ := HB.out.size; have hbx_ := hb_; have HB_ := Lib.hid (bl_then2 (by (repeat (with_reducible first | exact HB.out | apply bl_alloc2 | apply bl_drew2 | apply bl_drewN2))) hb_); clear HB hb_; (try clear hq); have HB := HB_; clear HB_; have hq := CB.of HB.out)
      have HO1 := Lib.hid (own_weaken (base' := V.heap.size) HO1.out (by first | exact hx_ | exact Nat.le_refl _))
      refine hK.out _ _ ⟨fun j => (hq.1 _ _ l1).trans (e1 j), fun j => (hq.1 _ _ l2).trans (e2 j), HB.out⟩ (fun hHeld => ?_)
      clear hK K hx_
      refine wpAnyH_take (i := 9) (v := ?_) rfl (by kernel_rfl) (by kernel_rfl) (by kernel_rfl) (fun _ _ _ h => h) (Or.inl ⟨by rfl, ?_⟩) (by assumption) ?_; rotate_left 1; (focus ((intro w_ hS_; (try dsimp only at hS_); go_simp; first | done | with_reducible rfl))); simp only [Act.put, stillOf, List.set_cons_succ, List.set_cons_zero, List.setIfInBounds_toArray, List.getElem_toArray, List.getElem_cons_succ, List.getElem_cons_zero]
      refine wpAnyH_ready (rs := [5, 7]) (by kernel_rfl) (by simp) (AllReadyH.cons rfl (fun K hK => ?_) (AllReadyH.cons rfl (fun K hK => ?_) AllReadyH.nil))
      · go_simp
        (go_at_call 52; refine (HC2.out _ (HR2V.out.below (by (repeat (with_reducible first | exact HB.out | apply bl_alloc2 | apply bl_drew2 | apply bl_drewN2))))).mono ?_; rintro e_ w2 ⟨v2, rfl, HO2, hb_⟩; have hx_ := HB.out.size; have hbx_ := hb_; have HB_ := Lib.hid (bl_then2 (by (repeat (with_reducible first | exact HB.out | apply bl_alloc2 | apply bl_drew2 | apply bl_drewN2))) hb_); clear HB hb_; (try clear hq); have HB := HB_; clear HB_; have hq := CB.of HB.out)
        have HNE := Lib.hid (show ∀ p q, v1.ownBlock = some p → v2.ownBlock = some q → p ≠ q from fun p q hp hq e => by have h1 := (HO1.out.lt p hp).2; have h2 := (HO2.out.lt q hq).1; omega)
        have HO1 := Lib.hid (own_below HO1.out hbx_)
        have HO2 := Lib.hid (own_weaken (base' := V.heap.size) HO2.out hx_)
        refine hK.out _ _ ⟨fun j => (hq.1 _ _ l1).trans (e1 j), fun j => (hq.1 _ _ l2).trans (e2 j), HB.out⟩ (fun hHeld => ?_)
        clear hK K hx_
        refine wpAnyH_ready (rs := [7]) (by kernel_rfl) (by simp) (AllReadyH.cons rfl (fun K hK => ?_) AllReadyH.nil)
        go_simp
        have hb_ : Below (w2).heap.size (w2) ((w2).alloc (.cells #[Value.int IntKind.i64 1, .int .i64 0, .int .i64 0, .int .i64 r.secs, .int .i64 r.shown.mn, .int .i64 r.shown.mx] 53)) := bl_alloc (Below.refl _ _) _
        have HN := Lib.hid (heap_new (w2) (.cells #[Value.int IntKind.i64 1, .int .i64 0, .int .i64 0, .int .i64 r.secs, .int .i64 r.shown.mn, .int .i64 r.shown.mx] 53))
        generalize hW2 : (w2).alloc _ = W2 at hb_ HN ⊢
        generalize hgn : (World.heap (w2)).size = gn at HN ⊢
        clear hW2 hgn
        have hbx_ := hb_; have HB_ := Lib.hid (bl_then2 (by (repeat (with_reducible first | exact HB.out | apply bl_alloc2 | apply bl_drew2 | apply bl_drewN2))) hb_); clear HB hb_; (try clear hq); have HB := HB_; clear HB_; have hq := CB.of HB.out
        refine hK.out _ _ ⟨fun j => (hq.1 _ _ l1).trans (e1 j), fun j => (hq.1 _ _ l2).trans (e2 j), HB.out⟩ (fun hHeld => ?_)
        clear hK K
        have HO1 := Lib.hid (own_below HO1.out hbx_)
        have HO2 := Lib.hid (own_below HO2.out hbx_)
        clear hbx_
        refine wpAnyH_ready (rs := [8]) (by kernel_rfl) (by simp) (AllReadyH.cons rfl (fun K hK => ?_) AllReadyH.nil)
        refine step_append_lies _ rfl _ _ 39 rfl V.heap.size 53 i0 _ 6 48 rfl hi hz0 hz1 hz2 rfl (by decide) v2 ls.length (flat Rd.cs (ls.map Ct.rd)) rfl HO2.out ⟨gn, 0, none⟩ 1 1 (Rd.cs r.rd) rfl rfl (World.news_of_block (t := 53) (fr := (0, 0)) HN.out) (by simp [Rd.cs, Value.oneCell']) (by omega) (by unfold maxLen; omega) (by omega) HB.out.size _ rfl ?_
        intro g cap w3 hown' hgrow hat hgl
        have HO2' := Lib.hid hown'
        have HB3 := Lib.hid (bl_grown HB.out HB.out.size hgrow (fun k hk => (HO2.out.lt k hk).1))
        have HO1' := Lib.hid (HO1.out.kept hgrow (by
          cases h : v1.ownBlock with
          | none => exact .inl rfl
          | some p => exact .inr fun e => HNE.out p p h e.symm rfl))
        clear hown' hgrow hat HO1 HO2 HN HB hq
        have hq := CB.of HB3.out
        obtain ⟨p1, c9, rfl⟩ := row_slice HO1'.out (by decide)
        simp only [Act.put, stillOf, List.set_cons_succ, List.set_cons_zero, List.setIfInBounds_toArray, List.getElem_toArray, List.getElem_cons_succ, List.getElem_cons_zero]
        refine hK.out _ _ ⟨fun j => (hq.1 _ _ l1).trans (e1 j), fun j => (hq.1 _ _ l2).trans (e2 j), HB3.out⟩ (fun hHeld => ?_)
        clear hK K
        refine wpAnyH_done (by kernel_rfl) ?_ _
        unfold Tailed
        dsimp only
        have hG := (HB3.out.block _ l1).trans HG1.out
        have hG3 := Lib.hid (HB3.out.block _ l3)
        clear hHeld hq e1 e2
        refine wpList_store_blk rfl 34 _ _ rfl g1 1 [.slice (some ⟨p1, 0, none⟩) 1 c9] rfl rfl 41 _ #[.int .i64 slack, .slice (some ⟨p1, 0, none⟩) 1 c9, .slice A2 ls.length c2] hG size34 (by simp) (by simp [Value.oneCell']) (by simp) (fun w7 hg7 hw7 => ?_)
        go_wp2_with ((with_reducible refine st_gate 39 rfl ?_); refine wpList_store_blk rfl 39 _ _ rfl g1 2 [.slice (some ⟨g, 0, none⟩) (ls.length + 1) cap] rfl rfl 41 _ #[.int .i64 slack, .slice (some ⟨p1, 0, none⟩) 1 c9, .slice (some ⟨g, 0, none⟩) (ls.length + 1) cap] hg7 size39 (by simp) (by simp [Value.oneCell']) (by simp) (fun w8 hg8 hw8 => ?_))
        go_meet
        refine ⟨p1, c9, _, hg8, own_wrote (own_wrote HO1'.out hw7 l1) hw8 l1, ?_, hw8.below (hw7.below (bl_then (bl_then H0W.out HWW.out) HB3.out) bg1) bg1, (hw8.block _ (by intro h; rw [h] at ng31; simp at ng31)).trans ((hw7.block _ (by intro h; rw [h] at ng31; simp at ng31)).trans hG3.out)⟩
        have h := own_wrote (own_wrote HO2'.out hw7 l1) hw8 l1
        rwa [List.map_append, List.map_cons, List.map_nil, flat_snoc]
      · go_simp
        have hb_ : Below (w1).heap.size (w1) ((w1).alloc (.cells #[Value.int IntKind.i64 1, .int .i64 0, .int .i64 0, .int .i64 r.secs, .int .i64 r.shown.mn, .int .i64 r.shown.mx] 53)) := bl_alloc (Below.refl _ _) _
        have HN := Lib.hid (heap_new (w1) (.cells #[Value.int IntKind.i64 1, .int .i64 0, .int .i64 0, .int .i64 r.secs, .int .i64 r.shown.mn, .int .i64 r.shown.mx] 53))
        generalize hW2 : (w1).alloc _ = W2 at hb_ HN ⊢
        generalize hgn : (World.heap (w1)).size = gn at HN ⊢
        clear hW2 hgn
        have hbx_ := hb_; have HB_ := Lib.hid (bl_then2 (by (repeat (with_reducible first | exact HB.out | apply bl_alloc2 | apply bl_drew2 | apply bl_drewN2))) hb_); clear HB hb_; (try clear hq); have HB := HB_; clear HB_; have hq := CB.of HB.out
        refine hK.out _ _ ⟨fun j => (hq.1 _ _ l1).trans (e1 j), fun j => (hq.1 _ _ l2).trans (e2 j), HB.out⟩ (fun hHeld => ?_)
        clear hK K
        have HO1 := Lib.hid (own_below HO1.out hbx_)
        clear hbx_
        refine wpAnyH_ready (rs := [5]) (by kernel_rfl) (by simp) (AllReadyH.cons rfl (fun K hK => ?_) AllReadyH.nil)
        go_simp
        (go_at_call 52; refine (HC2.out _ (HR2V.out.below (by (repeat (with_reducible first | exact HB.out | apply bl_alloc2 | apply bl_drew2 | apply bl_drewN2))))).mono ?_; rintro e_ w2 ⟨v2, rfl, HO2, hb_⟩; have hx_ := HB.out.size; have hbx_ := hb_; have HB_ := Lib.hid (bl_then2 (by (repeat (with_reducible first | exact HB.out | apply bl_alloc2 | apply bl_drew2 | apply bl_drewN2))) hb_); clear HB hb_; (try clear hq); have HB := HB_; clear HB_; have hq := CB.of HB.out)
        have HNE := Lib.hid (show ∀ p q, v1.ownBlock = some p → v2.ownBlock = some q → p ≠ q from fun p q hp hq e => by have h1 := (HO1.out.lt p hp).2; have h2 := (HO2.out.lt q hq).1; omega)
        have HO1 := Lib.hid (own_below HO1.out hbx_)
        have HO2 := Lib.hid (own_weaken (base' := V.heap.size) HO2.out hx_)
        refine hK.out _ _ ⟨fun j => (hq.1 _ _ l1).trans (e1 j), fun j => (hq.1 _ _ l2).trans (e2 j), HB.out⟩ (fun hHeld => ?_)
        clear hK K hx_
        have HN := Lib.hid ((hbx_.block _ (Array.getElem?_eq_some_iff.1 HN.out).1).trans HN.out)
        clear hbx_
        refine wpAnyH_ready (rs := [8]) (by kernel_rfl) (by simp) (AllReadyH.cons rfl (fun K hK => ?_) AllReadyH.nil)
        refine step_append_lies _ rfl _ _ 39 rfl V.heap.size 53 i0 _ 6 48 rfl hi hz0 hz1 hz2 rfl (by decide) v2 ls.length (flat Rd.cs (ls.map Ct.rd)) rfl HO2.out ⟨gn, 0, none⟩ 1 1 (Rd.cs r.rd) rfl rfl (World.news_of_block (t := 53) (fr := (0, 0)) HN.out) (by simp [Rd.cs, Value.oneCell']) (by omega) (by unfold maxLen; omega) (by omega) HB.out.size _ rfl ?_
        intro g cap w3 hown' hgrow hat hgl
        have HO2' := Lib.hid hown'
        have HB3 := Lib.hid (bl_grown HB.out HB.out.size hgrow (fun k hk => (HO2.out.lt k hk).1))
        have HO1' := Lib.hid (HO1.out.kept hgrow (by
          cases h : v1.ownBlock with
          | none => exact .inl rfl
          | some p => exact .inr fun e => HNE.out p p h e.symm rfl))
        clear hown' hgrow hat HO1 HO2 HN HB hq
        have hq := CB.of HB3.out
        obtain ⟨p1, c9, rfl⟩ := row_slice HO1'.out (by decide)
        simp only [Act.put, stillOf, List.set_cons_succ, List.set_cons_zero, List.setIfInBounds_toArray, List.getElem_toArray, List.getElem_cons_succ, List.getElem_cons_zero]
        refine hK.out _ _ ⟨fun j => (hq.1 _ _ l1).trans (e1 j), fun j => (hq.1 _ _ l2).trans (e2 j), HB3.out⟩ (fun hHeld => ?_)
        clear hK K
        refine wpAnyH_done (by kernel_rfl) ?_ _
        unfold Tailed
        dsimp only
        have hG := (HB3.out.block _ l1).trans HG1.out
        have hG3 := Lib.hid (HB3.out.block _ l3)
        clear hHeld hq e1 e2
        refine wpList_store_blk rfl 34 _ _ rfl g1 1 [.slice (some ⟨p1, 0, none⟩) 1 c9] rfl rfl 41 _ #[.int .i64 slack, .slice (some ⟨p1, 0, none⟩) 1 c9, .slice A2 ls.length c2] hG size34 (by simp) (by simp [Value.oneCell']) (by simp) (fun w7 hg7 hw7 => ?_)
        go_wp2_with ((with_reducible refine st_gate 39 rfl ?_); refine wpList_store_blk rfl 39 _ _ rfl g1 2 [.slice (some ⟨g, 0, none⟩) (ls.length + 1) cap] rfl rfl 41 _ #[.int .i64 slack, .slice (some ⟨p1, 0, none⟩) 1 c9, .slice (some ⟨g, 0, none⟩) (ls.length + 1) cap] hg7 size39 (by simp) (by simp [Value.oneCell']) (by simp) (fun w8 hg8 hw8 => ?_))
        go_meet
        refine ⟨p1, c9, _, hg8, own_wrote (own_wrote HO1'.out hw7 l1) hw8 l1, ?_, hw8.below (hw7.below (bl_then (bl_then H0W.out HWW.out) HB3.out) bg1) bg1, (hw8.block _ (by intro h; rw [h] at ng31; simp at ng31)).trans ((hw7.block _ (by intro h; rw [h] at ng31; simp at ng31)).trans hG3.out)⟩
        have h := own_wrote (own_wrote HO2'.out hw7 l1) hw8 l1
        rwa [List.map_append, List.map_cons, List.map_nil, flat_snoc]
    · go_simp
      have hb_ : Below V.heap.size V (V.alloc (.cells #[Value.int IntKind.i64 1, .int .i64 0, .int .i64 0, .int .i64 r.secs, .int .i64 r.shown.mn, .int .i64 r.shown.mx] 53)).drew := bl_drew (bl_alloc (Below.refl _ _) _)
      have HN := Lib.hid (show (V.alloc (.cells #[Value.int IntKind.i64 1, .int .i64 0, .int .i64 0, .int .i64 r.secs, .int .i64 r.shown.mn, .int .i64 r.shown.mx] 53)).drew.heap[V.heap.size]? = some (.cells #[Value.int IntKind.i64 1, .int .i64 0, .int .i64 0, .int .i64 r.secs, .int .i64 r.shown.mn, .int .i64 r.shown.mx] 53) from heap_new V _)
      generalize hW2 : (V.alloc _).drew = W2 at hb_ HN ⊢
      generalize hgn : V.heap.size = gn at HN ⊢
      clear hW2 hgn
      have hbx_ := hb_; have HB_ := Lib.hid (bl_then2 (by (repeat (with_reducible first | exact HB.out | apply bl_alloc2 | apply bl_drew2 | apply bl_drewN2))) hb_); clear HB hb_; (try clear hq); have HB := HB_; clear HB_; have hq := CB.of HB.out
      refine hK.out _ _ ⟨fun j => (hq.1 _ _ l1).trans (e1 j), fun j => (hq.1 _ _ l2).trans (e2 j), HB.out⟩ (fun hHeld => ?_)
      clear hK K
      clear hbx_
      refine wpAnyH_ready (rs := [2]) (by kernel_rfl) (by simp) (AllReadyH.cons rfl (fun K hK => ?_) AllReadyH.nil)
      go_simp
      (go_at_call 51; refine (HC1.out _ (HRV.out.below (by (repeat (with_reducible first | exact HB.out | apply bl_alloc2 | apply bl_drew2 | apply bl_drewN2))))).mono ?_; rintro e_ w1 ⟨v1, rfl, HO1, hb_⟩; have hx_ := HB.out.size; have hbx_ := hb_; have HB_ := Lib.hid (bl_then2 (by (repeat (with_reducible first | exact HB.out | apply bl_alloc2 | apply bl_drew2 | apply bl_drewN2))) hb_); clear HB hb_; (try clear hq); have HB := HB_; clear HB_; have hq := CB.of HB.out)
      have HO1 := Lib.hid (own_weaken (base' := V.heap.size) HO1.out (by first | exact hx_ | exact Nat.le_refl _))
      refine hK.out _ _ ⟨fun j => (hq.1 _ _ l1).trans (e1 j), fun j => (hq.1 _ _ l2).trans (e2 j), HB.out⟩ (fun hHeld => ?_)
      clear hK K hx_
      refine wpAnyH_take (i := 9) (v := ?_) rfl (by kernel_rfl) (by kernel_rfl) (by kernel_rfl) (fun _ _ _ h => h) (Or.inl ⟨by rfl, ?_⟩) (by assumption) ?_; rotate_left 1; (focus ((intro w_ hS_; (try dsimp only at hS_); go_simp; first | done | with_reducible rfl))); simp only [Act.put, stillOf, List.set_cons_succ, List.set_cons_zero, List.setIfInBounds_toArray, List.getElem_toArray, List.getElem_cons_succ, List.getElem_cons_zero]
      have HN := Lib.hid ((hbx_.block _ (Array.getElem?_eq_some_iff.1 HN.out).1).trans HN.out)
      clear hbx_
      refine wpAnyH_ready (rs := [5]) (by kernel_rfl) (by simp) (AllReadyH.cons rfl (fun K hK => ?_) AllReadyH.nil)
      go_simp
      (go_at_call 52; refine (HC2.out _ (HR2V.out.below (by (repeat (with_reducible first | exact HB.out | apply bl_alloc2 | apply bl_drew2 | apply bl_drewN2))))).mono ?_; rintro e_ w2 ⟨v2, rfl, HO2, hb_⟩; have hx_ := HB.out.size; have hbx_ := hb_; have HB_ := Lib.hid (bl_then2 (by (repeat (with_reducible first | exact HB.out | apply bl_alloc2 | apply bl_drew2 | apply bl_drewN2))) hb_); clear HB hb_; (try clear hq); have HB := HB_; clear HB_; have hq := CB.of HB.out)
      have HNE := Lib.hid (show ∀ p q, v1.ownBlock = some p → v2.ownBlock = some q → p ≠ q from fun p q hp hq e => by have h1 := (HO1.out.lt p hp).2; have h2 := (HO2.out.lt q hq).1; omega)
      have HO1 := Lib.hid (own_below HO1.out hbx_)
      have HO2 := Lib.hid (own_weaken (base' := V.heap.size) HO2.out hx_)
      refine hK.out _ _ ⟨fun j => (hq.1 _ _ l1).trans (e1 j), fun j => (hq.1 _ _ l2).trans (e2 j), HB.out⟩ (fun hHeld => ?_)
      clear hK K hx_
      have HN := Lib.hid ((hbx_.block _ (Array.getElem?_eq_some_iff.1 HN.out).1).trans HN.out)
      clear hbx_
      refine wpAnyH_ready (rs := [8]) (by kernel_rfl) (by simp) (AllReadyH.cons rfl (fun K hK => ?_) AllReadyH.nil)
      refine step_append_lies _ rfl _ _ 39 rfl V.heap.size 53 i0 _ 6 48 rfl hi hz0 hz1 hz2 rfl (by decide) v2 ls.length (flat Rd.cs (ls.map Ct.rd)) rfl HO2.out ⟨gn, 0, none⟩ 1 1 (Rd.cs r.rd) rfl rfl (World.news_of_block (t := 53) (fr := (0, 0)) HN.out) (by simp [Rd.cs, Value.oneCell']) (by omega) (by unfold maxLen; omega) (by omega) HB.out.size _ rfl ?_
      intro g cap w3 hown' hgrow hat hgl
      have HO2' := Lib.hid hown'
      have HB3 := Lib.hid (bl_grown HB.out HB.out.size hgrow (fun k hk => (HO2.out.lt k hk).1))
      have HO1' := Lib.hid (HO1.out.kept hgrow (by
        cases h : v1.ownBlock with
        | none => exact .inl rfl
        | some p => exact .inr fun e => HNE.out p p h e.symm rfl))
      clear hown' hgrow hat HO1 HO2 HN HB hq
      have hq := CB.of HB3.out
      obtain ⟨p1, c9, rfl⟩ := row_slice HO1'.out (by decide)
      simp only [Act.put, stillOf, List.set_cons_succ, List.set_cons_zero, List.setIfInBounds_toArray, List.getElem_toArray, List.getElem_cons_succ, List.getElem_cons_zero]
      refine hK.out _ _ ⟨fun j => (hq.1 _ _ l1).trans (e1 j), fun j => (hq.1 _ _ l2).trans (e2 j), HB3.out⟩ (fun hHeld => ?_)
      clear hK K
      refine wpAnyH_done (by kernel_rfl) ?_ _
      unfold Tailed
      dsimp only
      have hG := (HB3.out.block _ l1).trans HG1.out
      have hG3 := Lib.hid (HB3.out.block _ l3)
      clear hHeld hq e1 e2
      refine wpList_store_blk rfl 34 _ _ rfl g1 1 [.slice (some ⟨p1, 0, none⟩) 1 c9] rfl rfl 41 _ #[.int .i64 slack, .slice (some ⟨p1, 0, none⟩) 1 c9, .slice A2 ls.length c2] hG size34 (by simp) (by simp [Value.oneCell']) (by simp) (fun w7 hg7 hw7 => ?_)
      go_wp2_with ((with_reducible refine st_gate 39 rfl ?_); refine wpList_store_blk rfl 39 _ _ rfl g1 2 [.slice (some ⟨g, 0, none⟩) (ls.length + 1) cap] rfl rfl 41 _ #[.int .i64 slack, .slice (some ⟨p1, 0, none⟩) 1 c9, .slice (some ⟨g, 0, none⟩) (ls.length + 1) cap] hg7 size39 (by simp) (by simp [Value.oneCell']) (by simp) (fun w8 hg8 hw8 => ?_))
      go_meet
      refine ⟨p1, c9, _, hg8, own_wrote (own_wrote HO1'.out hw7 l1) hw8 l1, ?_, hw8.below (hw7.below (bl_then (bl_then H0W.out HWW.out) HB3.out) bg1) bg1, (hw8.block _ (by intro h; rw [h] at ng31; simp at ng31)).trans ((hw7.block _ (by intro h; rw [h] at ng31; simp at ng31)).trans hG3.out)⟩
      have h := own_wrote (own_wrote HO2'.out hw7 l1) hw8 l1
      rwa [List.map_append, List.map_cons, List.map_nil, flat_snoc]
  case rest =>
    obtain ⟨g, c, v2, hG1, hO1, hO2, hb, hG3⟩ := hcut
    obtain ⟨A, c9, rfl, hrow2, -⟩ := row_of_any (enc := Rd.cs) (fun _ => rfl) (l := (ls ++ [r]).map Ct.rd) (by simp) hO2
    have hrow1 := row_of_own (enc := Rg.cs) (fun _ => rfl) hO1
    have HG1 := Lib.hid hG1
    have HG3 := Lib.hid (hG3.trans ((HWW.out.block _ lg3).trans HHg3.out))
    have x1 := (Array.getElem?_eq_some_iff.1 HG1.out).1
    have x3 := (Array.getElem?_eq_some_iff.1 HG3.out).1
    have HBX := Lib.hid hb
    have HO1 := Lib.hid hO1
    have HO2 := Lib.hid hO2
    have HW1 := Lib.hid hrow1
    have HW2 := Lib.hid hrow2
    clear hG1 hG3 hO1 hO2 hb hrow1 hrow2 HC1 HC2
    have HB := Lib.hid (Below.refl wc.heap.size wc)
    cases hkl : keptC slack x (ls ++ [r]) with
    | nil =>
      simp only [hkl, List.isEmpty_nil, Bool.not_true] at HM
      have HK := Lib.hid hkl
      clear hkl
      go_wp2_with (first
        | ((with_reducible refine ld_gate 41 rfl ?_); refine wpList_load_row rfl 41 _ rfl g1 rfl 41 _ (0, 0) _ ((HB.out.block _ x1).trans HG1.out) Try.underlying41 rfl size41 ?_)
        | (go_at_call 53; refine (HM.out g c A c9 _ (HW1.out.below HB.out) (HW2.out.below HB.out)).mono ?_; rintro e_ w1 ⟨rfl, hb_⟩; have HB_ := Lib.hid (bl_then2 (by (repeat (with_reducible first | exact HB.out | apply bl_alloc2 | apply bl_drew2 | apply bl_drewN2))) hb_); clear HB hb_; (try clear hq); have HB := HB_; clear HB_; have hq := CB.of HB.out)
        | ((with_reducible refine st_gate 41 rfl ?_); refine wpList_store_row rfl 41 _ _ rfl g3 _ rfl rfl 41 _ ((HB.out.block _ x3).trans HG3.out) size41 (by simp) (by simp [Value.oneCell']) ?_))
      exact ret_row_tmp rfl g3 41 _ _ rfl (setRow_heap ((HB.out.block _ x3).trans HG3.out)) Try.underlying41 rfl size41 rfl ⟨⟨_, _, rfl, Lib.hid (.inl ⟨HK.out, rfl, rfl⟩)⟩, bl_setRow (bl_then HBX.out HB.out) bg3 _⟩
    | cons t kl =>
      simp only [hkl, List.isEmpty_cons, Bool.not_false] at HM
      have HK := Lib.hid hkl
      clear hkl
      go_wp2_with (first
        | ((with_reducible refine ld_gate 41 rfl ?_); refine wpList_load_row rfl 41 _ rfl g1 rfl 41 _ (0, 0) _ ((HB.out.block _ x1).trans HG1.out) Try.underlying41 rfl size41 ?_)
        | (go_at_call 53; refine (HM.out g c A c9 _ (HW1.out.below HB.out) (HW2.out.below HB.out)).mono ?_; rintro e_ w1 ⟨rfl, hb_⟩; have HB_ := Lib.hid (bl_then2 (by (repeat (with_reducible first | exact HB.out | apply bl_alloc2 | apply bl_drew2 | apply bl_drewN2))) hb_); clear HB hb_; (try clear hq); have HB := HB_; clear HB_; have hq := CB.of HB.out)
        | ((with_reducible refine st_gate 41 rfl ?_); refine wpList_store_row rfl 41 _ _ rfl g3 _ rfl rfl 41 _ ((HB.out.block _ x3).trans HG3.out) size41 (by simp) (by simp [Value.oneCell']) ?_))
      have hwr := wrote_setRow w1 g3 #[.int .i64 slack, .slice (some ⟨g, 0, none⟩) 1 c, .slice A (ls.length + 1) c9]
      refine ret_row_tmp rfl g3 41 _ _ rfl (setRow_heap ((HB.out.block _ x3).trans HG3.out)) Try.underlying41 rfl size41 rfl ⟨⟨_, _, rfl, Lib.hid (.inr ⟨(by rw [HK.out]; simp), rfl, g, c, A, c9, by simp, ?_, ?_⟩)⟩, bl_setRow (bl_then HBX.out HB.out) bg3 _⟩
      · exact row_of_own (enc := Rg.cs) (fun _ => rfl) (own_wrote (own_below HO1.out HB.out) hwr l3)
      · obtain ⟨A', c', he', hrow', -⟩ := row_of_any (enc := Rd.cs) (fun _ => rfl) (l := (ls ++ [r]).map Ct.rd) (by simp) (own_wrote (own_below HO2.out HB.out) hwr l3)
        injection he' with e1 e2 e3
        subst e1; exact hrow'
end Go.Proofs.Ytnclljamcfoolaa
