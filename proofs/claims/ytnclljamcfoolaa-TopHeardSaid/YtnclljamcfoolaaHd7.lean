/- Walks of reed.passes and reed.Passes. Walk of reed.steel.filed: what becomes of a tongue by a stroke. Walks of package voice: sums of ranges, the beats of two tongues. -/
import Derived.Test.YtnclljamcfoolaaHd6
import Derived.Test.YtnclljamcfoolaaHd4
import Derived.Test.YtnclljamcfoolaaHd1
namespace Go.Proofs.Ytnclljamcfoolaa
open Go.RowKit
set_option linter.unusedVariables false
set_option linter.unusedSimpArgs false

theorem size51g : (Try.prog.info? 51).map (·.size) = some 18 := by kernel_rfl
theorem row_single {α : Type} {enc : α → List Value} {sz : Nat} {W : World} {g : Nat} {cs : Array Value} (x : α) (he : enc x = cs.toList) (h : ∀ j, W.cell? ⟨g, j, none⟩ = cs[j]?) : Row enc sz W (some ⟨g, 0, none⟩) [x] := by
  refine .inr ⟨g, 0, rfl, fun i y hy j v hv => ?_⟩
  match i with
  | 0 =>
    obtain rfl : x = y := by simpa using hy
    rw [he] at hv
    rw [show 0 + 0 * sz + j = j by omega, h j]
    simpa using hv
  | i + 1 => simp at hy
theorem meet1_calls (x p : Rg) (w : World) (g : Nat) (h : ∀ j, w.cell? ⟨g, j, none⟩ = #[Value.int .i64 p.mn, Value.int .i64 p.mx][j]?) :
    Calls Try.prog 88 #[x.v, .slice (some ⟨g, 0, none⟩) 1 1] w fun e w' => e = .returned (meetR x p).v ∧ Below w.heap.size w w' :=
  meetG_calls x [p] (some ⟨g, 0, none⟩) 1 w (row_single p rfl h) (by simp)

set_option maxRecDepth 100000 in
set_option maxHeartbeats 2000000 in
theorem passesG_calls (j : Job) (A : Option Addr) (c : Nat) (p : Rg) (w : World) (h : Row Rg.cs 2 w A j.shifts) (hj : jobErr j = 0) :
    Calls Try.prog 59 #[j.v A c, p.v] w fun e w' => e = .returned (.int .i64 (passR j p)) ∧ Below w.heap.size w w' := by
  have hW := Lib.hid (fun w h => windows_calls j A c w h hj)
  unfold Job.v at *
  go_enter Try.func59, Try.ntmps59
  go_upto_region 1 with (fail)
  generalize hW : (w.alloc _).alloc _ = W
  generalize h2_ : w.heap.size + 1 = g2
  generalize h1_ : w.heap.size = g1
  obtain ⟨hB0_, Hg1, Hg2, kg1, kg2, fg1, fg2, lg1, lg2, bg1, bg2, ng12, ng21⟩ := gen2 w _ _ _ _ hW h2_ h1_
  clear hW h1_ h2_
  have H0W := Lib.hid hB0_
  clear hB0_
  have HHg1 := Lib.hid Hg1
  have HHg2 := Lib.hid Hg2
  clear Hg1 Hg2
  have HB := Lib.hid (Below.refl W.heap.size W)
  have HR := Lib.hid (h.below H0W.out)
  clear h
  have hp : passR j p = if hasR (surelyR j) p then 1 else if (meetR (maybeR j) p).mx < (meetR (maybeR j) p).mn then 2 else 3 := rfl
  obtain ⟨s, hs⟩ : ∃ s, surelyR j = s := ⟨_, rfl⟩
  obtain ⟨m, hm⟩ : ∃ m, maybeR j = m := ⟨_, rfl⟩
  rw [hs, hm] at hp hW
  have HPS := Lib.hid hp
  clear hs hm hp
  go_upto_region 2 with (first
    | ((with_reducible refine ld_gate 51 rfl ?_); refine wpList_load_row rfl 51 _ rfl g1 rfl 51 _ (0, 0) _ ((HB.out.block _ lg1).trans HHg1.out) Try.underlying51 rfl size51g ?_)
    | (go_at_call 87; refine (hW.out _ (HR.out.below HB.out)).mono ?_; rintro e_ w1 ⟨rfl, hb_⟩; have HB_ := Lib.hid (bl_then2 (by (repeat (with_reducible first | exact HB.out | apply bl_alloc2 | apply bl_drew2 | apply bl_drewN2))) hb_); clear HB hb_; (try clear hq); have HB := HB_; clear HB_; have hq := CB.of HB.out))
  generalize hW : (w1.alloc _).alloc _ = V
  generalize h2_ : w1.heap.size + 1 = v2
  generalize h1_ : w1.heap.size = v1
  obtain ⟨hB0_, Hv1, Hv2, kv1, kv2, fv1, fv2, lv1, lv2, bv1, bv2, nv12, nv21⟩ := gen2 w1 _ _ _ _ hW h2_ h1_
  clear hW h1_ h2_
  have H0V := Lib.hid hB0_
  clear hB0_
  have HHv1 := Lib.hid Hv1
  have HHv2 := Lib.hid Hv2
  clear Hv1 Hv2
  have HWV := Lib.hid (bl_then HB.out H0V.out)
  have kp : ∀ j', V.cell? ⟨g2, j', none⟩ = #[Value.int .i64 p.mn, Value.int .i64 p.mx][j']? := fun j' => ((CB.of HWV.out).1 _ _ lg2).trans (kg2 j')
  have lp := Nat.lt_of_lt_of_le lg2 HWV.out.size
  clear HB hq H0V hW HR kg1 HHg1 HHg2
  have HB := Lib.hid (Below.refl V.heap.size V)
  go_upto_region 3 with (first
    | (go_at_call 88; refine (meet1_calls m p _ V.heap.size (fun j => cell_of_row _ _ j _ _ _ (heap_new V _))).mono ?_; rintro e_ w2 ⟨rfl, hb_⟩; have HB_ := Lib.hid (bl_then2 (by (repeat (with_reducible first | exact HB.out | apply bl_alloc2 | apply bl_drew2 | apply bl_drewN2))) hb_); clear HB hb_; (try clear hq); have HB := HB_; clear HB_; have hq := CB.of HB.out))
  obtain ⟨r, hr⟩ : ∃ r, meetR m p = r := ⟨_, rfl⟩
  rw [hr] at HPS
  simp only [hr]
  clear hr
  generalize hW : w2.alloc _ = U
  generalize h1_ : w2.heap.size = u1
  obtain ⟨hB0_, Hu1, ku1, fu1, lu1, bu1⟩ := gen1 w2 _ _ hW h1_
  clear hW h1_
  have H0U := Lib.hid hB0_
  clear hB0_
  have HHu1 := Lib.hid Hu1
  clear Hu1
  have HVU := Lib.hid (bl_then HB.out H0U.out)
  have kp2 : ∀ j', U.cell? ⟨g2, j', none⟩ = #[Value.int .i64 p.mn, Value.int .i64 p.mx][j']? := fun j' => ((CB.of HVU.out).1 _ _ lp).trans (kp j')
  have ks2 : ∀ j', U.cell? ⟨v1, j', none⟩ = #[Value.int .i64 s.mn, Value.int .i64 s.mx][j']? := fun j' => ((CB.of HVU.out).1 _ _ lv1).trans (kv1 j')
  have lp2 := Nat.lt_of_lt_of_le lp HVU.out.size
  have lv := Nat.lt_of_lt_of_le lv1 HVU.out.size
  have HWU := Lib.hid (bl_then HWV.out HVU.out)
  clear HB hq H0U kp kv1 kv2 lp lv1
  have HB := Lib.hid (Below.refl U.heap.size U)
  go_wp2_with (go_at_call 89; refine (hasG_calls s p _).mono ?_; rintro e_ w3 ⟨rfl, hb_⟩; have HB_ := Lib.hid (bl_then2 (by (repeat (with_reducible first | exact HB.out | apply bl_alloc2 | apply bl_drew2 | apply bl_drewN2))) hb_); clear HB hb_; (try clear hq); have HB := HB_; clear HB_; have hq := CB.of HB.out)
  all_goals (go_ret; refine ⟨ret_int ?_, bl_then H0W.out (bl_then HWU.out HB.out)⟩; go_tidy; rw [HPS.out]; simp_all; try omega)

set_option maxRecDepth 100000 in
set_option maxHeartbeats 2000000 in
theorem PassesG_calls (j : Job) (A : Option Addr) (c : Nat) (w : World) (h : Row Rg.cs 2 w A j.shifts) (hj : jobErr j = 0) (hm : j.shifts.length ≤ 1000000000000000) :
    Calls Try.prog 18 #[j.v A c] w fun e w' => e = .returned (.tuple #[.int .i64 (passR j j.t.pitch), .int .i64 0]) ∧ Below w.heap.size w w' := by
  have hC := Lib.hid (fun w h => reedCheck_calls j A c w h hm)
  rw [hj] at hC
  have hP := Lib.hid (fun w h => passesG_calls j A c j.t.pitch w h hj)
  unfold Job.v at *
  go_enter Try.func18, Try.ntmps18
  go_upto_region 1 with (fail)
  generalize hW : w.alloc _ = W
  generalize h1_ : w.heap.size = g1
  obtain ⟨hB0_, Hg1, kg1, fg1, lg1, bg1⟩ := gen1 w _ _ hW h1_
  clear hW h1_
  have H0W := Lib.hid hB0_
  clear hB0_
  have HHg1 := Lib.hid Hg1
  clear Hg1
  have HB := Lib.hid (Below.refl W.heap.size W)
  have HR := Lib.hid (h.below H0W.out)
  clear h
  obtain ⟨v, hv⟩ : ∃ v, passR j j.t.pitch = v := ⟨_, rfl⟩
  rw [hv] at hP
  have HV := Lib.hid hv
  clear hv
  go_wp2_with (first
    | ((with_reducible refine ld_gate 51 rfl ?_); refine wpList_load_row rfl 51 _ rfl g1 rfl 51 _ (0, 0) _ ((HB.out.block _ lg1).trans HHg1.out) Try.underlying51 rfl size51g ?_)
    | (go_at_call 58; refine (hC.out _ (HR.out.below HB.out)).mono ?_; rintro e_ w1 ⟨rfl, hb_⟩; have HB_ := Lib.hid (bl_then2 (by (repeat (with_reducible first | exact HB.out | apply bl_alloc2 | apply bl_drew2 | apply bl_drewN2))) hb_); clear HB hb_; (try clear hq); have HB := HB_; clear HB_; have hq := CB.of HB.out)
    | (go_at_call 59; refine (hP.out _ (HR.out.below HB.out)).mono ?_; rintro e_ w1 ⟨rfl, hb_⟩; have HB_ := Lib.hid (bl_then2 (by (repeat (with_reducible first | exact HB.out | apply bl_alloc2 | apply bl_drew2 | apply bl_drewN2))) hb_); clear HB hb_; (try clear hq); have HB := HB_; clear HB_; have hq := CB.of HB.out))
  go_ret2
  exact ⟨by rw [HV.out]; rfl, by (repeat (first | exact bl_then H0W.out HB.out | exact H0W.out | exact HB.out | exact Below.refl _ _ | refine bl_set ?_ (by assumption) _ | refine bl_alloc ?_ _ | refine bl_drew ?_ | refine bl_drewN ?_ _))⟩

end Go.Proofs.Ytnclljamcfoolaa
namespace Go.Proofs.Ytnclljamcfoolaa
open Go.RowKit
set_option linter.unusedVariables false
set_option linter.unusedSimpArgs false

theorem size130 : (Try.prog.info? 130).map (·.size) = some 15 := by kernel_rfl
def filedT (t : Tng) (f : Fil) (k : Int) : Tng := if k = 1 then ⟨plusR t.pitch f.up, lessR t.tip f.tipw, t.root⟩ else ⟨lessR t.pitch f.down, t.tip, lessR t.root f.rootw⟩
def Tng.Bd (B : Int) (t : Tng) : Prop := t.pitch.Bd B ∧ t.tip.Bd B ∧ t.root.Bd B
def Fil.Bd (B : Int) (f : Fil) : Prop := f.up.Bd B ∧ f.down.Bd B ∧ f.tipw.Bd B ∧ f.rootw.Bd B

set_option maxRecDepth 100000 in
set_option maxHeartbeats 2000000 in
theorem filed_calls (t : Tng) (f : Fil) (k : Int) (hk : k = 1 ∨ k = 2) (ht : t.Bd 1000000000) (hf : f.Bd 1000000000) (w : World) :
    Calls Try.prog 97 #[steelV t f, .int .i64 k] w fun e w' => e = .returned (steelV (filedT t f k) f) ∧ Below w.heap.size w w' := by
  obtain ⟨b1, b2, b3⟩ := ht
  obtain ⟨b4, b5, b6, b7⟩ := hf
  have HP1 := Lib.hid (fun w => plusG_calls t.pitch f.up w b1 b4)
  have HP2 := Lib.hid (fun w => lessG_calls t.tip f.tipw w b2 b6)
  have HP3 := Lib.hid (fun w => lessG_calls t.pitch f.down w b1 b5)
  have HP4 := Lib.hid (fun w => lessG_calls t.root f.rootw w b3 b7)
  clear b1 b2 b3 b4 b5 b6 b7
  go_enter Try.func97, Try.ntmps97
  go_upto_region 1 with (fail)
  generalize hW : (w.alloc _).alloc _ = W
  generalize h2_ : w.heap.size + 1 = g2
  generalize h1_ : w.heap.size = g1
  obtain ⟨hB0_, Hg1, Hg2, kg1, kg2, fg1, fg2, lg1, lg2, bg1, bg2, ng12, ng21⟩ := gen2 w _ _ _ _ hW h2_ h1_
  clear hW h1_ h2_
  have H0W := Lib.hid hB0_
  clear hB0_
  have HHg1 := Lib.hid Hg1
  have HHg2 := Lib.hid Hg2
  clear Hg1 Hg2
  have HS9 := Lib.hid (show ∀ w', Below W.heap.size W w' → ∀ j, w'.cell? ⟨g1, j, none⟩ = #[Value.int IntKind.i64 t.pitch.mn, Value.int IntKind.i64 t.pitch.mx, Value.int IntKind.i64 t.tip.mn, Value.int IntKind.i64 t.tip.mx, Value.int IntKind.i64 t.root.mn, Value.int IntKind.i64 t.root.mx, Value.int IntKind.i64 f.up.mn, Value.int IntKind.i64 f.up.mx, Value.int IntKind.i64 f.down.mn, Value.int IntKind.i64 f.down.mx, Value.int IntKind.i64 f.tipw.mn, Value.int IntKind.i64 f.tipw.mx, Value.int IntKind.i64 f.rootw.mn, Value.int IntKind.i64 f.rootw.mx, Value.int IntKind.i64 f.least][j]? from fun w' h j => ((CB.of h).1 _ j lg1).trans (kg1 j))
  have HB := Lib.hid (Below.refl W.heap.size W)
  rcases hk with rfl | rfl
  · obtain ⟨p, hp⟩ : ∃ p, plusR t.pitch f.up = p := ⟨_, rfl⟩
    obtain ⟨q, hq_⟩ : ∃ q, lessR t.tip f.tipw = q := ⟨_, rfl⟩
    have e1 : filedT t f 1 = ⟨p, q, t.root⟩ := by unfold filedT; rw [if_pos rfl, hp, hq_]
    rw [hp] at HP1
    rw [hq_] at HP2
    have HE := Lib.hid e1
    clear e1 hp hq_ HP3 HP4
    go_upto_region 3 with (fail)
    refine wp_region_tail (S := fun w' => ∀ j, w'.cell? ⟨g1, j, none⟩ = #[Value.int IntKind.i64 t.pitch.mn, Value.int IntKind.i64 t.pitch.mx, Value.int IntKind.i64 t.tip.mn, Value.int IntKind.i64 t.tip.mx, Value.int IntKind.i64 t.root.mn, Value.int IntKind.i64 t.root.mx, Value.int IntKind.i64 f.up.mn, Value.int IntKind.i64 f.up.mx, Value.int IntKind.i64 f.down.mn, Value.int IntKind.i64 f.down.mx, Value.int IntKind.i64 f.tipw.mn, Value.int IntKind.i64 f.tipw.mx, Value.int IntKind.i64 f.rootw.mn, Value.int IntKind.i64 f.rootw.mx, Value.int IntKind.i64 f.least][j]?) 16 _ _ (by kernel_rfl) rfl rfl (by decide) (by kernel_rfl) (HS9.out _ (bl_drew (Below.refl _ _))) (fun hHeld => ?_)
    simp only [Act.put, stillOf, List.set_cons_succ, List.set_cons_zero, List.setIfInBounds_toArray, List.getElem_toArray, List.getElem_cons_succ, List.getElem_cons_zero]
    refine wpAnyH_take (i := 0) (v := ?_) rfl (by kernel_rfl) (by kernel_rfl) (by kernel_rfl) (fun _ _ _ h => h) (Or.inl ⟨by rfl, ?_⟩) (by assumption) ?_; rotate_left 1; (focus ((intro w_ hS_; (try dsimp only at hS_); go_simp; first | done | with_reducible rfl))); simp only [Act.put, stillOf, List.set_cons_succ, List.set_cons_zero, List.setIfInBounds_toArray, List.getElem_toArray, List.getElem_cons_succ, List.getElem_cons_zero]
    refine wpAnyH_take (i := 1) (v := ?_) rfl (by kernel_rfl) (by kernel_rfl) (by kernel_rfl) (fun _ _ _ h => h) (Or.inl ⟨by rfl, ?_⟩) (by assumption) ?_; rotate_left 1; (focus ((intro w_ hS_; (try dsimp only at hS_); go_simp; first | done | with_reducible rfl))); simp only [Act.put, stillOf, List.set_cons_succ, List.set_cons_zero, List.setIfInBounds_toArray, List.getElem_toArray, List.getElem_cons_succ, List.getElem_cons_zero]
    refine wpAnyH_take (i := 2) (v := ?_) rfl (by kernel_rfl) (by kernel_rfl) (by kernel_rfl) (fun _ _ _ h => h) (Or.inl ⟨by rfl, ?_⟩) (by assumption) ?_; rotate_left 1; (focus ((intro w_ hS_; (try dsimp only at hS_); go_simp; first | done | with_reducible rfl))); simp only [Act.put, stillOf, List.set_cons_succ, List.set_cons_zero, List.setIfInBounds_toArray, List.getElem_toArray, List.getElem_cons_succ, List.getElem_cons_zero]
    refine wpAnyH_take (i := 3) (v := ?_) rfl (by kernel_rfl) (by kernel_rfl) (by kernel_rfl) (fun _ _ _ h => h) (Or.inl ⟨by rfl, ?_⟩) (by assumption) ?_; rotate_left 1; (focus ((intro w_ hS_; (try dsimp only at hS_); go_simp; first | done | with_reducible rfl))); simp only [Act.put, stillOf, List.set_cons_succ, List.set_cons_zero, List.setIfInBounds_toArray, List.getElem_toArray, List.getElem_cons_succ, List.getElem_cons_zero]
    refine wpAnyH_take (i := 4) (v := ?_) rfl (by kernel_rfl) (by kernel_rfl) (by kernel_rfl) (fun _ _ _ h => h) (Or.inl ⟨by rfl, ?_⟩) (by assumption) ?_; rotate_left 1; (focus ((intro w_ hS_; (try dsimp only at hS_); go_simp; first | done | with_reducible rfl))); simp only [Act.put, stillOf, List.set_cons_succ, List.set_cons_zero, List.setIfInBounds_toArray, List.getElem_toArray, List.getElem_cons_succ, List.getElem_cons_zero]
    refine wpAnyH_take (i := 5) (v := ?_) rfl (by kernel_rfl) (by kernel_rfl) (by kernel_rfl) (fun _ _ _ h => h) (Or.inl ⟨by rfl, ?_⟩) (by assumption) ?_; rotate_left 1; (focus ((intro w_ hS_; (try dsimp only at hS_); go_simp; first | done | with_reducible rfl))); simp only [Act.put, stillOf, List.set_cons_succ, List.set_cons_zero, List.setIfInBounds_toArray, List.getElem_toArray, List.getElem_cons_succ, List.getElem_cons_zero]
    refine wpAnyH_take (i := 7) (v := ?_) rfl (by kernel_rfl) (by kernel_rfl) (by kernel_rfl) (fun _ _ _ h => h) (Or.inl ⟨by rfl, ?_⟩) (by assumption) ?_; rotate_left 1; (focus ((intro w_ hS_; (try dsimp only at hS_); go_simp; first | done | with_reducible rfl))); simp only [Act.put, stillOf, List.set_cons_succ, List.set_cons_zero, List.setIfInBounds_toArray, List.getElem_toArray, List.getElem_cons_succ, List.getElem_cons_zero]
    refine wpAnyH_take (i := 8) (v := ?_) rfl (by kernel_rfl) (by kernel_rfl) (by kernel_rfl) (fun _ _ _ h => h) (Or.inl ⟨by rfl, ?_⟩) (by assumption) ?_; rotate_left 1; (focus ((intro w_ hS_; (try dsimp only at hS_); go_simp; first | done | with_reducible rfl))); simp only [Act.put, stillOf, List.set_cons_succ, List.set_cons_zero, List.setIfInBounds_toArray, List.getElem_toArray, List.getElem_cons_succ, List.getElem_cons_zero]
    refine wpAnyH_take (i := 9) (v := ?_) rfl (by kernel_rfl) (by kernel_rfl) (by kernel_rfl) (fun _ _ _ h => h) (Or.inl ⟨by rfl, ?_⟩) (by assumption) ?_; rotate_left 1; (focus ((intro w_ hS_; (try dsimp only at hS_); go_simp; first | done | with_reducible rfl))); simp only [Act.put, stillOf, List.set_cons_succ, List.set_cons_zero, List.setIfInBounds_toArray, List.getElem_toArray, List.getElem_cons_succ, List.getElem_cons_zero]
    refine wpAnyH_take (i := 10) (v := ?_) rfl (by kernel_rfl) (by kernel_rfl) (by kernel_rfl) (fun _ _ _ h => h) (Or.inl ⟨by rfl, ?_⟩) (by assumption) ?_; rotate_left 1; (focus ((intro w_ hS_; (try dsimp only at hS_); go_simp; first | done | with_reducible rfl))); simp only [Act.put, stillOf, List.set_cons_succ, List.set_cons_zero, List.setIfInBounds_toArray, List.getElem_toArray, List.getElem_cons_succ, List.getElem_cons_zero]
    refine wpAnyH_take (i := 11) (v := ?_) rfl (by kernel_rfl) (by kernel_rfl) (by kernel_rfl) (fun _ _ _ h => h) (Or.inl ⟨by rfl, ?_⟩) (by assumption) ?_; rotate_left 1; (focus ((intro w_ hS_; (try dsimp only at hS_); go_simp; first | done | with_reducible rfl))); simp only [Act.put, stillOf, List.set_cons_succ, List.set_cons_zero, List.setIfInBounds_toArray, List.getElem_toArray, List.getElem_cons_succ, List.getElem_cons_zero]
    refine wpAnyH_take (i := 12) (v := ?_) rfl (by kernel_rfl) (by kernel_rfl) (by kernel_rfl) (fun _ _ _ h => h) (Or.inl ⟨by rfl, ?_⟩) (by assumption) ?_; rotate_left 1; (focus ((intro w_ hS_; (try dsimp only at hS_); go_simp; first | done | with_reducible rfl))); simp only [Act.put, stillOf, List.set_cons_succ, List.set_cons_zero, List.setIfInBounds_toArray, List.getElem_toArray, List.getElem_cons_succ, List.getElem_cons_zero]
    refine wpAnyH_ready (rs := [6]) (by kernel_rfl) (by simp) (AllReadyH.cons rfl (fun K hK => ?_) AllReadyH.nil)
    go_simp
    (go_at_call 112; refine (HP1.out _).mono ?_; rintro e_ w5 ⟨rfl, hb_⟩; have HB_ := Lib.hid (bl_then2 (by (repeat (with_reducible first | exact HB.out | apply bl_alloc2 | apply bl_drew2 | apply bl_drewN2))) hb_); clear HB hb_; (try clear hq); have HB := HB_; clear HB_; have hq := CB.of HB.out)
    refine hK.out _ _ (HS9.out _ HB.out) (fun hHeld => ?_)
    clear hK K
    refine wpAnyH_take (i := 14) (v := ?_) rfl (by kernel_rfl) (by kernel_rfl) (by kernel_rfl) (fun _ _ _ h => h) (Or.inl ⟨by rfl, ?_⟩) (by assumption) ?_; rotate_left 1; (focus ((intro w_ hS_; (try dsimp only at hS_); go_simp; first | done | with_reducible rfl))); simp only [Act.put, stillOf, List.set_cons_succ, List.set_cons_zero, List.setIfInBounds_toArray, List.getElem_toArray, List.getElem_cons_succ, List.getElem_cons_zero]
    refine wpAnyH_take (i := 15) (v := ?_) rfl (by kernel_rfl) (by kernel_rfl) (by kernel_rfl) (fun _ _ _ h => h) (Or.inl ⟨by rfl, ?_⟩) (by assumption) ?_; rotate_left 1; (focus ((intro w_ hS_; (try dsimp only at hS_); go_simp; first | done | with_reducible rfl))); simp only [Act.put, stillOf, List.set_cons_succ, List.set_cons_zero, List.setIfInBounds_toArray, List.getElem_toArray, List.getElem_cons_succ, List.getElem_cons_zero]
    refine wpAnyH_ready (rs := [13]) (by kernel_rfl) (by simp) (AllReadyH.cons rfl (fun K hK => ?_) AllReadyH.nil)
    go_simp
    (go_at_call 110; refine (HP2.out _).mono ?_; rintro e_ w6 ⟨rfl, hb_⟩; have HB_ := Lib.hid (bl_then2 (by (repeat (with_reducible first | exact HB.out | apply bl_alloc2 | apply bl_drew2 | apply bl_drewN2))) hb_); clear HB hb_; (try clear hq); have HB := HB_; clear HB_; have hq := CB.of HB.out)
    refine hK.out _ _ (HS9.out _ HB.out) (fun hHeld => ?_)
    clear hK K
    refine wpAnyH_done (by kernel_rfl) ?_ _
    unfold Tailed
    dsimp only
    have G1 := (HB.out.block _ lg1).trans HHg1.out
    have G2 := (HB.out.block _ lg2).trans HHg2.out
    refine wpList_store_blk rfl 26 _ _ rfl g1 0 [.int .i64 p.mn, .int .i64 p.mx] rfl rfl 130 _ #[Value.int IntKind.i64 (Tng.mk p t.tip t.root).pitch.mn, Value.int IntKind.i64 (Tng.mk p t.tip t.root).pitch.mx, Value.int IntKind.i64 (Tng.mk p t.tip t.root).tip.mn, Value.int IntKind.i64 (Tng.mk p t.tip t.root).tip.mx, Value.int IntKind.i64 (Tng.mk p t.tip t.root).root.mn, Value.int IntKind.i64 (Tng.mk p t.tip t.root).root.mx, Value.int IntKind.i64 f.up.mn, Value.int IntKind.i64 f.up.mx, Value.int IntKind.i64 f.down.mn, Value.int IntKind.i64 f.down.mx, Value.int IntKind.i64 f.tipw.mn, Value.int IntKind.i64 f.tipw.mx, Value.int IntKind.i64 f.rootw.mn, Value.int IntKind.i64 f.rootw.mx, Value.int IntKind.i64 f.least] G1 size26g (by simp) (by simp [Value.oneCell']) (by simp) (fun w7 hg7 hw7 => ?_)
    have n21 : g2 ≠ g1 := fun h => by rw [h] at ng21; exact ng21 ▸ rfl
    have G27 := (hw7.block _ n21).trans G2
    have HW7 := Lib.hid (hw7.below (bl_then H0W.out HB.out) bg1)
    clear hHeld G1 G2 HB hq HP1 HP2 HS9
    go_upto_region 6 with ((with_reducible refine st_gate 26 rfl ?_); refine wpList_store_blk rfl 26 _ _ rfl g1 2 [.int .i64 q.mn, .int .i64 q.mx] rfl rfl 130 _ #[Value.int IntKind.i64 (Tng.mk p q t.root).pitch.mn, Value.int IntKind.i64 (Tng.mk p q t.root).pitch.mx, Value.int IntKind.i64 (Tng.mk p q t.root).tip.mn, Value.int IntKind.i64 (Tng.mk p q t.root).tip.mx, Value.int IntKind.i64 (Tng.mk p q t.root).root.mn, Value.int IntKind.i64 (Tng.mk p q t.root).root.mx, Value.int IntKind.i64 f.up.mn, Value.int IntKind.i64 f.up.mx, Value.int IntKind.i64 f.down.mn, Value.int IntKind.i64 f.down.mx, Value.int IntKind.i64 f.tipw.mn, Value.int IntKind.i64 f.tipw.mx, Value.int IntKind.i64 f.rootw.mn, Value.int IntKind.i64 f.rootw.mx, Value.int IntKind.i64 f.least] hg7 size26g (by simp) (by simp [Value.oneCell']) (by simp) (fun w8 hg8 hw8 => ?_))
    have G28 := (hw8.block _ n21).trans G27
    have HW8 := Lib.hid (hw8.below HW7.out bg1)
    go_wp2_with (first
      | ((with_reducible refine ld_gate 130 rfl ?_); refine wpList_load_row rfl 130 _ rfl g1 rfl 130 _ (0, 0) _ hg8 Try.underlying130 rfl size130 ?_)
      | ((with_reducible refine st_gate 130 rfl ?_); refine wpList_store_row rfl 130 _ _ rfl g2 _ rfl rfl 130 _ G28 size130 (by simp) (by simp [Value.oneCell']) ?_))
    exact ret_row rfl g2 130 _ _ rfl (setRow_heap G28) Try.underlying130 rfl size130 rfl ⟨by rw [HE.out], bl_setRow HW8.out bg2 _⟩
  · obtain ⟨p, hp⟩ : ∃ p, lessR t.pitch f.down = p := ⟨_, rfl⟩
    obtain ⟨q, hq_⟩ : ∃ q, lessR t.root f.rootw = q := ⟨_, rfl⟩
    have e1 : filedT t f 2 = ⟨p, t.tip, q⟩ := by unfold filedT; rw [if_neg (by decide), hp, hq_]
    rw [hp] at HP3
    rw [hq_] at HP4
    have HE := Lib.hid e1
    clear e1 hp hq_ HP1 HP2
    go_upto_region 5 with (fail)
    refine wp_region_tail (S := fun w' => ∀ j, w'.cell? ⟨g1, j, none⟩ = #[Value.int IntKind.i64 t.pitch.mn, Value.int IntKind.i64 t.pitch.mx, Value.int IntKind.i64 t.tip.mn, Value.int IntKind.i64 t.tip.mx, Value.int IntKind.i64 t.root.mn, Value.int IntKind.i64 t.root.mx, Value.int IntKind.i64 f.up.mn, Value.int IntKind.i64 f.up.mx, Value.int IntKind.i64 f.down.mn, Value.int IntKind.i64 f.down.mx, Value.int IntKind.i64 f.tipw.mn, Value.int IntKind.i64 f.tipw.mx, Value.int IntKind.i64 f.rootw.mn, Value.int IntKind.i64 f.rootw.mx, Value.int IntKind.i64 f.least][j]?) 16 _ _ (by kernel_rfl) rfl rfl (by decide) (by kernel_rfl) (HS9.out _ (bl_drew (Below.refl _ _))) (fun hHeld => ?_)
    simp only [Act.put, stillOf, List.set_cons_succ, List.set_cons_zero, List.setIfInBounds_toArray, List.getElem_toArray, List.getElem_cons_succ, List.getElem_cons_zero]
    refine wpAnyH_take (i := 0) (v := ?_) rfl (by kernel_rfl) (by kernel_rfl) (by kernel_rfl) (fun _ _ _ h => h) (Or.inl ⟨by rfl, ?_⟩) (by assumption) ?_; rotate_left 1; (focus ((intro w_ hS_; (try dsimp only at hS_); go_simp; first | done | with_reducible rfl))); simp only [Act.put, stillOf, List.set_cons_succ, List.set_cons_zero, List.setIfInBounds_toArray, List.getElem_toArray, List.getElem_cons_succ, List.getElem_cons_zero]
    refine wpAnyH_take (i := 1) (v := ?_) rfl (by kernel_rfl) (by kernel_rfl) (by kernel_rfl) (fun _ _ _ h => h) (Or.inl ⟨by rfl, ?_⟩) (by assumption) ?_; rotate_left 1; (focus ((intro w_ hS_; (try dsimp only at hS_); go_simp; first | done | with_reducible rfl))); simp only [Act.put, stillOf, List.set_cons_succ, List.set_cons_zero, List.setIfInBounds_toArray, List.getElem_toArray, List.getElem_cons_succ, List.getElem_cons_zero]
    refine wpAnyH_take (i := 2) (v := ?_) rfl (by kernel_rfl) (by kernel_rfl) (by kernel_rfl) (fun _ _ _ h => h) (Or.inl ⟨by rfl, ?_⟩) (by assumption) ?_; rotate_left 1; (focus ((intro w_ hS_; (try dsimp only at hS_); go_simp; first | done | with_reducible rfl))); simp only [Act.put, stillOf, List.set_cons_succ, List.set_cons_zero, List.setIfInBounds_toArray, List.getElem_toArray, List.getElem_cons_succ, List.getElem_cons_zero]
    refine wpAnyH_take (i := 3) (v := ?_) rfl (by kernel_rfl) (by kernel_rfl) (by kernel_rfl) (fun _ _ _ h => h) (Or.inl ⟨by rfl, ?_⟩) (by assumption) ?_; rotate_left 1; (focus ((intro w_ hS_; (try dsimp only at hS_); go_simp; first | done | with_reducible rfl))); simp only [Act.put, stillOf, List.set_cons_succ, List.set_cons_zero, List.setIfInBounds_toArray, List.getElem_toArray, List.getElem_cons_succ, List.getElem_cons_zero]
    refine wpAnyH_take (i := 4) (v := ?_) rfl (by kernel_rfl) (by kernel_rfl) (by kernel_rfl) (fun _ _ _ h => h) (Or.inl ⟨by rfl, ?_⟩) (by assumption) ?_; rotate_left 1; (focus ((intro w_ hS_; (try dsimp only at hS_); go_simp; first | done | with_reducible rfl))); simp only [Act.put, stillOf, List.set_cons_succ, List.set_cons_zero, List.setIfInBounds_toArray, List.getElem_toArray, List.getElem_cons_succ, List.getElem_cons_zero]
    refine wpAnyH_take (i := 5) (v := ?_) rfl (by kernel_rfl) (by kernel_rfl) (by kernel_rfl) (fun _ _ _ h => h) (Or.inl ⟨by rfl, ?_⟩) (by assumption) ?_; rotate_left 1; (focus ((intro w_ hS_; (try dsimp only at hS_); go_simp; first | done | with_reducible rfl))); simp only [Act.put, stillOf, List.set_cons_succ, List.set_cons_zero, List.setIfInBounds_toArray, List.getElem_toArray, List.getElem_cons_succ, List.getElem_cons_zero]
    refine wpAnyH_take (i := 7) (v := ?_) rfl (by kernel_rfl) (by kernel_rfl) (by kernel_rfl) (fun _ _ _ h => h) (Or.inl ⟨by rfl, ?_⟩) (by assumption) ?_; rotate_left 1; (focus ((intro w_ hS_; (try dsimp only at hS_); go_simp; first | done | with_reducible rfl))); simp only [Act.put, stillOf, List.set_cons_succ, List.set_cons_zero, List.setIfInBounds_toArray, List.getElem_toArray, List.getElem_cons_succ, List.getElem_cons_zero]
    refine wpAnyH_take (i := 8) (v := ?_) rfl (by kernel_rfl) (by kernel_rfl) (by kernel_rfl) (fun _ _ _ h => h) (Or.inl ⟨by rfl, ?_⟩) (by assumption) ?_; rotate_left 1; (focus ((intro w_ hS_; (try dsimp only at hS_); go_simp; first | done | with_reducible rfl))); simp only [Act.put, stillOf, List.set_cons_succ, List.set_cons_zero, List.setIfInBounds_toArray, List.getElem_toArray, List.getElem_cons_succ, List.getElem_cons_zero]
    refine wpAnyH_take (i := 9) (v := ?_) rfl (by kernel_rfl) (by kernel_rfl) (by kernel_rfl) (fun _ _ _ h => h) (Or.inl ⟨by rfl, ?_⟩) (by assumption) ?_; rotate_left 1; (focus ((intro w_ hS_; (try dsimp only at hS_); go_simp; first | done | with_reducible rfl))); simp only [Act.put, stillOf, List.set_cons_succ, List.set_cons_zero, List.setIfInBounds_toArray, List.getElem_toArray, List.getElem_cons_succ, List.getElem_cons_zero]
    refine wpAnyH_take (i := 10) (v := ?_) rfl (by kernel_rfl) (by kernel_rfl) (by kernel_rfl) (fun _ _ _ h => h) (Or.inl ⟨by rfl, ?_⟩) (by assumption) ?_; rotate_left 1; (focus ((intro w_ hS_; (try dsimp only at hS_); go_simp; first | done | with_reducible rfl))); simp only [Act.put, stillOf, List.set_cons_succ, List.set_cons_zero, List.setIfInBounds_toArray, List.getElem_toArray, List.getElem_cons_succ, List.getElem_cons_zero]
    refine wpAnyH_take (i := 11) (v := ?_) rfl (by kernel_rfl) (by kernel_rfl) (by kernel_rfl) (fun _ _ _ h => h) (Or.inl ⟨by rfl, ?_⟩) (by assumption) ?_; rotate_left 1; (focus ((intro w_ hS_; (try dsimp only at hS_); go_simp; first | done | with_reducible rfl))); simp only [Act.put, stillOf, List.set_cons_succ, List.set_cons_zero, List.setIfInBounds_toArray, List.getElem_toArray, List.getElem_cons_succ, List.getElem_cons_zero]
    refine wpAnyH_take (i := 12) (v := ?_) rfl (by kernel_rfl) (by kernel_rfl) (by kernel_rfl) (fun _ _ _ h => h) (Or.inl ⟨by rfl, ?_⟩) (by assumption) ?_; rotate_left 1; (focus ((intro w_ hS_; (try dsimp only at hS_); go_simp; first | done | with_reducible rfl))); simp only [Act.put, stillOf, List.set_cons_succ, List.set_cons_zero, List.setIfInBounds_toArray, List.getElem_toArray, List.getElem_cons_succ, List.getElem_cons_zero]
    refine wpAnyH_ready (rs := [6]) (by kernel_rfl) (by simp) (AllReadyH.cons rfl (fun K hK => ?_) AllReadyH.nil)
    go_simp
    (go_at_call 110; refine (HP3.out _).mono ?_; rintro e_ w5 ⟨rfl, hb_⟩; have HB_ := Lib.hid (bl_then2 (by (repeat (with_reducible first | exact HB.out | apply bl_alloc2 | apply bl_drew2 | apply bl_drewN2))) hb_); clear HB hb_; (try clear hq); have HB := HB_; clear HB_; have hq := CB.of HB.out)
    refine hK.out _ _ (HS9.out _ HB.out) (fun hHeld => ?_)
    clear hK K
    refine wpAnyH_take (i := 14) (v := ?_) rfl (by kernel_rfl) (by kernel_rfl) (by kernel_rfl) (fun _ _ _ h => h) (Or.inl ⟨by rfl, ?_⟩) (by assumption) ?_; rotate_left 1; (focus ((intro w_ hS_; (try dsimp only at hS_); go_simp; first | done | with_reducible rfl))); simp only [Act.put, stillOf, List.set_cons_succ, List.set_cons_zero, List.setIfInBounds_toArray, List.getElem_toArray, List.getElem_cons_succ, List.getElem_cons_zero]
    refine wpAnyH_take (i := 15) (v := ?_) rfl (by kernel_rfl) (by kernel_rfl) (by kernel_rfl) (fun _ _ _ h => h) (Or.inl ⟨by rfl, ?_⟩) (by assumption) ?_; rotate_left 1; (focus ((intro w_ hS_; (try dsimp only at hS_); go_simp; first | done | with_reducible rfl))); simp only [Act.put, stillOf, List.set_cons_succ, List.set_cons_zero, List.setIfInBounds_toArray, List.getElem_toArray, List.getElem_cons_succ, List.getElem_cons_zero]
    refine wpAnyH_ready (rs := [13]) (by kernel_rfl) (by simp) (AllReadyH.cons rfl (fun K hK => ?_) AllReadyH.nil)
    go_simp
    (go_at_call 110; refine (HP4.out _).mono ?_; rintro e_ w6 ⟨rfl, hb_⟩; have HB_ := Lib.hid (bl_then2 (by (repeat (with_reducible first | exact HB.out | apply bl_alloc2 | apply bl_drew2 | apply bl_drewN2))) hb_); clear HB hb_; (try clear hq); have HB := HB_; clear HB_; have hq := CB.of HB.out)
    refine hK.out _ _ (HS9.out _ HB.out) (fun hHeld => ?_)
    clear hK K
    refine wpAnyH_done (by kernel_rfl) ?_ _
    unfold Tailed
    dsimp only
    have G1 := (HB.out.block _ lg1).trans HHg1.out
    have G2 := (HB.out.block _ lg2).trans HHg2.out
    refine wpList_store_blk rfl 26 _ _ rfl g1 0 [.int .i64 p.mn, .int .i64 p.mx] rfl rfl 130 _ #[Value.int IntKind.i64 (Tng.mk p t.tip t.root).pitch.mn, Value.int IntKind.i64 (Tng.mk p t.tip t.root).pitch.mx, Value.int IntKind.i64 (Tng.mk p t.tip t.root).tip.mn, Value.int IntKind.i64 (Tng.mk p t.tip t.root).tip.mx, Value.int IntKind.i64 (Tng.mk p t.tip t.root).root.mn, Value.int IntKind.i64 (Tng.mk p t.tip t.root).root.mx, Value.int IntKind.i64 f.up.mn, Value.int IntKind.i64 f.up.mx, Value.int IntKind.i64 f.down.mn, Value.int IntKind.i64 f.down.mx, Value.int IntKind.i64 f.tipw.mn, Value.int IntKind.i64 f.tipw.mx, Value.int IntKind.i64 f.rootw.mn, Value.int IntKind.i64 f.rootw.mx, Value.int IntKind.i64 f.least] G1 size26g (by simp) (by simp [Value.oneCell']) (by simp) (fun w7 hg7 hw7 => ?_)
    have n21 : g2 ≠ g1 := fun h => by rw [h] at ng21; exact ng21 ▸ rfl
    have G27 := (hw7.block _ n21).trans G2
    have HW7 := Lib.hid (hw7.below (bl_then H0W.out HB.out) bg1)
    clear hHeld G1 G2 HB hq HP3 HP4 HS9
    go_upto_region 6 with ((with_reducible refine st_gate 26 rfl ?_); refine wpList_store_blk rfl 26 _ _ rfl g1 4 [.int .i64 q.mn, .int .i64 q.mx] rfl rfl 130 _ #[Value.int IntKind.i64 (Tng.mk p t.tip q).pitch.mn, Value.int IntKind.i64 (Tng.mk p t.tip q).pitch.mx, Value.int IntKind.i64 (Tng.mk p t.tip q).tip.mn, Value.int IntKind.i64 (Tng.mk p t.tip q).tip.mx, Value.int IntKind.i64 (Tng.mk p t.tip q).root.mn, Value.int IntKind.i64 (Tng.mk p t.tip q).root.mx, Value.int IntKind.i64 f.up.mn, Value.int IntKind.i64 f.up.mx, Value.int IntKind.i64 f.down.mn, Value.int IntKind.i64 f.down.mx, Value.int IntKind.i64 f.tipw.mn, Value.int IntKind.i64 f.tipw.mx, Value.int IntKind.i64 f.rootw.mn, Value.int IntKind.i64 f.rootw.mx, Value.int IntKind.i64 f.least] hg7 size26g (by simp) (by simp [Value.oneCell']) (by simp) (fun w8 hg8 hw8 => ?_))
    have G28 := (hw8.block _ n21).trans G27
    have HW8 := Lib.hid (hw8.below HW7.out bg1)
    go_wp2_with (first
      | ((with_reducible refine ld_gate 130 rfl ?_); refine wpList_load_row rfl 130 _ rfl g1 rfl 130 _ (0, 0) _ hg8 Try.underlying130 rfl size130 ?_)
      | ((with_reducible refine st_gate 130 rfl ?_); refine wpList_store_row rfl 130 _ _ rfl g2 _ rfl rfl 130 _ G28 size130 (by simp) (by simp [Value.oneCell']) ?_))
    exact ret_row rfl g2 130 _ _ rfl (setRow_heap G28) Try.underlying130 rfl size130 rfl ⟨by rw [HE.out], bl_setRow HW8.out bg2 _⟩

end Go.Proofs.Ytnclljamcfoolaa
namespace Go.Proofs.Ytnclljamcfoolaa
open Go.RowKit

theorem plus_calls (a b c d : Int) (w : World) (hx : -1000000000 ≤ a ∧ a ≤ 1000000000 ∧ -1000000000 ≤ b ∧ b ≤ 1000000000) (hy : -1000000000 ≤ c ∧ c ≤ 1000000000 ∧ -1000000000 ≤ d ∧ d ≤ 1000000000) :
    Calls Try.prog 80 #[.agg #[.int .i64 a, .int .i64 b], .agg #[.int .i64 c, .int .i64 d]] w fun e w' => e = .returned (.agg #[.int .i64 (a + c), .int .i64 (b + d)]) ∧ Below w.heap.size w w' := by
  go_enter Try.func80, Try.ntmps80
  go_wp2
  exact bodyPost_ret (v := .agg #[.int .i64 (a + c), .int .i64 (b + d)]) (by simp [results, Try.results80, go_sem]) rfl ⟨rfl, by (repeat (first | assumption | exact Below.refl _ _ | refine bl_alloc ?_ _ | refine bl_drew ?_ | refine bl_drewN ?_ _))⟩

theorem less_calls (a b c d : Int) (w : World) (hx : -1000000000 ≤ a ∧ a ≤ 1000000000 ∧ -1000000000 ≤ b ∧ b ≤ 1000000000) (hy : -1000000000 ≤ c ∧ c ≤ 1000000000 ∧ -1000000000 ≤ d ∧ d ≤ 1000000000) :
    Calls Try.prog 102 #[.agg #[.int .i64 a, .int .i64 b], .agg #[.int .i64 c, .int .i64 d]] w fun e w' => e = .returned (.agg #[.int .i64 (a - d), .int .i64 (b - c)]) ∧ Below w.heap.size w w' := by
  go_enter Try.func102, Try.ntmps102
  go_wp2
  exact bodyPost_ret (v := .agg #[.int .i64 (a - d), .int .i64 (b - c)]) (by simp [results, Try.results102, go_sem]) rfl ⟨rfl, by (repeat (first | assumption | exact Below.refl _ _ | refine bl_alloc ?_ _ | refine bl_drew ?_ | refine bl_drewN ?_ _))⟩

theorem mul_bd {n a : Int} (hn : 0 ≤ n ∧ n ≤ 100) (ha : -100000 ≤ a ∧ a ≤ 100000) : -10000000 ≤ n * a ∧ n * a ≤ 10000000 := by
  constructor
  · have := Int.mul_le_mul_of_nonneg_left (c := n) (a := -100000) (b := a) ha.1 hn.1; omega
  · have := Int.mul_le_mul_of_nonneg_left (c := n) (a := a) (b := 100000) ha.2 hn.1; omega
theorem wrap_mul {n a : Int} (hn : 0 ≤ n ∧ n ≤ 100) (ha : -100000 ≤ a ∧ a ≤ 100000) : wrap64 (n * a) = n * a := by
  have h := mul_bd hn ha
  generalize n * a = m at h ⊢
  unfold wrap64; omega

theorem times_calls (a b n : Int) (w : World) (hx : -100000 ≤ a ∧ a ≤ 100000 ∧ -100000 ≤ b ∧ b ≤ 100000) (hn : 0 ≤ n ∧ n ≤ 100) :
    Calls Try.prog 103 #[.agg #[.int .i64 a, .int .i64 b], .int .i64 n] w fun e w' => e = .returned (.agg #[.int .i64 (n * a), .int .i64 (n * b)]) ∧ Below w.heap.size w w' := by
  have e1 := wrap_mul hn ⟨hx.1, hx.2.1⟩
  have e2 := wrap_mul hn ⟨hx.2.2.1, hx.2.2.2⟩
  go_enter Try.func103, Try.ntmps103
  go_wp2
  exact bodyPost_ret (v := .agg #[.int .i64 (n * a), .int .i64 (n * b)]) (by simp [results, Try.results103, go_sem]) rfl ⟨rfl, by (repeat (first | assumption | exact Below.refl _ _ | refine bl_alloc ?_ _ | refine bl_drew ?_ | refine bl_drewN ?_ _))⟩

set_option maxHeartbeats 400000 in
theorem rise_calls (a b c d e f g h n : Int) (w : World) (hx : -1000 ≤ a ∧ a ≤ 1000 ∧ -1000 ≤ b ∧ b ≤ 1000 ∧ -1000 ≤ c ∧ c ≤ 1000 ∧ -1000 ≤ d ∧ d ≤ 1000) (hy : -1000 ≤ e ∧ e ≤ 1000 ∧ -1000 ≤ f ∧ f ≤ 1000 ∧ -1000 ≤ g ∧ g ≤ 1000 ∧ -1000 ≤ h ∧ h ≤ 1000) (hn : 0 ≤ n ∧ n ≤ 100) :
    Calls Try.prog 81 #[.agg #[.int .i64 a, .int .i64 b, .int .i64 c, .int .i64 d], .agg #[.int .i64 e, .int .i64 f, .int .i64 g, .int .i64 h], .int .i64 n] w fun ed w' => ed = .returned (.agg #[.int .i64 (n * g - (b + n * d)), .int .i64 (n * h - (a + n * c))]) ∧ Below w.heap.size w w' := by
  have m1 := mul_bd hn (a := c) (by omega)
  have m2 := mul_bd hn (a := d) (by omega)
  have m3 := mul_bd hn (a := g) (by omega)
  have m4 := mul_bd hn (a := h) (by omega)
  go_enter Try.func81, Try.ntmps81
  go_wp2
  generalize hW : ((w.alloc _).alloc _).alloc _ = W
  generalize h3_ : w.heap.size + 1 + 1 = g3
  generalize h2_ : w.heap.size + 1 = g2
  generalize h1_ : w.heap.size = g1
  obtain ⟨hB0_, Hg1, Hg2, Hg3, kg1, kg2, kg3, fg1, fg2, fg3, lg1, lg2, lg3, bg1, bg2, bg3, ng12, ng13, ng21, ng23, ng31, ng32⟩ := gen3 w _ _ _ _ _ _ hW h3_ h2_ h1_
  clear hW h1_ h2_ h3_
  have H0W := Lib.hid hB0_
  clear hB0_
  have HHg1 := Lib.hid Hg1
  have HHg2 := Lib.hid Hg2
  have HHg3 := Lib.hid Hg3
  clear Hg1 Hg2 Hg3
  have HB := Lib.hid (Below.refl W.heap.size W)
  go_region_held3 (fun w' => (∀ j, w'.cell? ⟨g1, j, none⟩ = #[Value.int IntKind.i64 a, Value.int IntKind.i64 b, Value.int IntKind.i64 c, Value.int IntKind.i64 d][j]?) ∧ (∀ j, w'.cell? ⟨g2, j, none⟩ = #[Value.int IntKind.i64 e, Value.int IntKind.i64 f, Value.int IntKind.i64 g, Value.int IntKind.i64 h][j]?))
    (first | exact ⟨fun j => (hq.1 _ j lg1).trans (kg1 j), fun j => (hq.1 _ j lg2).trans (kg2 j)⟩ | exact ⟨fun j => ((CB.of (bl_drew HB.out)).1 _ j lg1).trans (kg1 j), fun j => ((CB.of (bl_drew HB.out)).1 _ j lg2).trans (kg2 j)⟩ | exact ⟨fun j => ((CB.of (bl_alloc HB.out _)).1 _ j lg1).trans (kg1 j), fun j => ((CB.of (bl_alloc HB.out _)).1 _ j lg2).trans (kg2 j)⟩ | exact ⟨fun j => ((CB.of (bl_alloc (bl_alloc HB.out _) _)).1 _ j lg1).trans (kg1 j), fun j => ((CB.of (bl_alloc (bl_alloc HB.out _) _)).1 _ j lg2).trans (kg2 j)⟩ | go_keep)
    (first
      | (go_at_call 103; (with_reducible refine (times_calls _ _ _ _ (by omega) (by omega)).mono ?_); rintro e_ w1 ⟨rfl, hb_⟩; have HB_ := Lib.hid (bl_then2 (by (repeat (with_reducible first | exact HB.out | apply bl_alloc2 | apply bl_drew2 | apply bl_drewN2))) hb_); clear HB hb_; (try clear hq); have HB := HB_; clear HB_; have hq := CB.of HB.out)
      | (go_at_call 80; (with_reducible refine (plus_calls _ _ _ _ _ (by omega) (by omega)).mono ?_); rintro e_ w1 ⟨rfl, hb_⟩; have HB_ := Lib.hid (bl_then2 (by (repeat (with_reducible first | exact HB.out | apply bl_alloc2 | apply bl_drew2 | apply bl_drewN2))) hb_); clear HB hb_; (try clear hq); have HB := HB_; clear HB_; have hq := CB.of HB.out)
      | (go_at_call 102; (with_reducible refine (less_calls _ _ _ _ _ (by omega) (by omega)).mono ?_); rintro e_ w1 ⟨rfl, hb_⟩; have HB_ := Lib.hid (bl_then2 (by (repeat (with_reducible first | exact HB.out | apply bl_alloc2 | apply bl_drew2 | apply bl_drewN2))) hb_); clear HB hb_; (try clear hq); have HB := HB_; clear HB_; have hq := CB.of HB.out))
  go_wp2
  exact bodyPost_ret (v := .agg #[.int .i64 (n * g - (b + n * d)), .int .i64 (n * h - (a + n * c))]) (by simp [results, Try.results81, go_sem, hq, lg3, kg3]) rfl ⟨rfl, by (repeat (first | exact bl_then H0W.out HB.out | exact H0W.out | exact HB.out | exact Below.refl _ _ | refine bl_set ?_ (by assumption) _ | refine bl_alloc ?_ _ | refine bl_drew ?_ | refine bl_drewN ?_ _))⟩

def beatAt (a b c d e f g h : Int) (p : Nat) : Rg := ⟨e + (p * g - (b + p * d)), f + (p * h - (a + p * c))⟩
def beatsUp (a b c d e f g h : Int) (n : Nat) : List Rg := (List.range n).map (beatAt a b c d e f g h)
theorem beatsUp_succ (a b c d e f g h : Int) (n : Nat) : beatsUp a b c d e f g h (n + 1) = beatsUp a b c d e f g h n ++ [beatAt a b c d e f g h n] := by simp [beatsUp, List.range_succ]
theorem info26 : (Try.prog.info? 26).map (fun i => (i.zero, i.size, i.bytes)) = some (some (.agg #[.int .i64 0, .int .i64 0]), 2, 16) := by kernel_rfl

set_option maxRecDepth 100000 in
set_option maxHeartbeats 1000000 in
theorem beats_calls (l1 l2 l3 : Int) (P : Nat) (a b c d e f g h : Int) (w : World) (hx : -1000 ≤ a ∧ a ≤ 1000 ∧ -1000 ≤ b ∧ b ≤ 1000 ∧ -1000 ≤ c ∧ c ≤ 1000 ∧ -1000 ≤ d ∧ d ≤ 1000) (hy : -1000 ≤ e ∧ e ≤ 1000 ∧ -1000 ≤ f ∧ f ≤ 1000 ∧ -1000 ≤ g ∧ g ≤ 1000 ∧ -1000 ≤ h ∧ h ≤ 1000) (hP : P ≤ 90) :
    Calls Try.prog 37 #[.agg #[.int .i64 l1, .int .i64 l2, .int .i64 l3, .int .i64 P], .agg #[.int .i64 a, .int .i64 b, .int .i64 c, .int .i64 d], .agg #[.int .i64 e, .int .i64 f, .int .i64 g, .int .i64 h]] w fun ed w' =>
      ∃ v, ed = .returned v ∧ w'.ownsRow w.heap.size 26 2 v (P + 1) (flat Rg.cs (beatsUp a b c d e f g h (P + 1))) ∧ Below w.heap.size w w' := by
  go_enter Try.func37, Try.ntmps37
  go_wp2
  generalize hW : ((w.alloc _).alloc _).alloc _ = W
  generalize h3_ : w.heap.size + 1 + 1 = g3
  generalize h2_ : w.heap.size + 1 = g2
  generalize h1_ : w.heap.size = g1
  obtain ⟨hB0_, Hg1, Hg2, Hg3, kg1, kg2, kg3, fg1, fg2, fg3, lg1, lg2, lg3, bg1, bg2, bg3, ng12, ng13, ng21, ng23, ng31, ng32⟩ := gen3 w _ _ _ _ _ _ hW h3_ h2_ h1_
  clear hW h1_ h2_ h3_
  have H0W := Lib.hid hB0_
  clear hB0_
  have HHg1 := Lib.hid Hg1
  have HHg2 := Lib.hid Hg2
  have HHg3 := Lib.hid Hg3
  clear Hg1 Hg2 Hg3
  obtain ⟨i0, hi, hz0, hz1, hz2⟩ := info_parts info26
  have HZ := Lib.hid (And.intro hi (And.intro hz0 (And.intro hz1 hz2)))
  clear hi hz0 hz1 hz2
  go_loopw [7, 12] (fun v i wr => ∃ k : Nat, k ≤ P + 1 ∧ i = .int .i64 k ∧ wr.ownsRow W.heap.size 26 2 v k (flat Rg.cs (beatsUp a b c d e f g h k)) ∧ Below W.heap.size W wr)
    (fun v i _ => P + 1 - (intOf i).toNat)
  case atStart => exact ⟨0, Nat.zero_le _, rfl, own_nil _ _ _ _, Below.refl _ _⟩
  case round =>
    obtain ⟨k, hk, rfl, hown, hb⟩ := hrel
    have HO := Lib.hid hown
    have HB := Lib.hid hb
    clear hown hb
    have hq := CB.of HB.out
    by_cases hlt : k < P + 1
    · have hlt' : decide ((k : Int) < (P : Int) + 1) = true := by simp; omega
      go_wp2
      have m1 := mul_bd (n := k) (by omega) (a := c) (by omega)
      have m2 := mul_bd (n := k) (by omega) (a := d) (by omega)
      have m3 := mul_bd (n := k) (by omega) (a := g) (by omega)
      have m4 := mul_bd (n := k) (by omega) (a := h) (by omega)
      go_region_held3 (fun w' => (∀ j, w'.cell? ⟨g2, j, none⟩ = #[Value.int IntKind.i64 a, Value.int IntKind.i64 b, Value.int IntKind.i64 c, Value.int IntKind.i64 d][j]?) ∧ (∀ j, w'.cell? ⟨g3, j, none⟩ = #[Value.int IntKind.i64 e, Value.int IntKind.i64 f, Value.int IntKind.i64 g, Value.int IntKind.i64 h][j]?))
        (first | exact ⟨fun j => (hq.1 _ j lg2).trans (kg2 j), fun j => (hq.1 _ j lg3).trans (kg3 j)⟩ | exact ⟨fun j => ((CB.of (bl_drew HB.out)).1 _ j lg2).trans (kg2 j), fun j => ((CB.of (bl_drew HB.out)).1 _ j lg3).trans (kg3 j)⟩ | exact ⟨fun j => ((CB.of (bl_alloc HB.out _)).1 _ j lg2).trans (kg2 j), fun j => ((CB.of (bl_alloc HB.out _)).1 _ j lg3).trans (kg3 j)⟩ | exact ⟨fun j => ((CB.of (bl_alloc (bl_alloc HB.out _) _)).1 _ j lg2).trans (kg2 j), fun j => ((CB.of (bl_alloc (bl_alloc HB.out _) _)).1 _ j lg3).trans (kg3 j)⟩ | go_keep)
        (first
          | (go_at_call 81; (with_reducible refine (rise_calls _ _ _ _ _ _ _ _ _ _ (by omega) (by omega) (by omega)).mono ?_); rintro e_ w1 ⟨rfl, hb_⟩; (first | have HO_ := Lib.hid (own_below HO.out hb_) | have HO_ := Lib.hid (own_below_d HO.out hb_)); clear HO; have HO := HO_; clear HO_; have HB_ := Lib.hid (bl_then2 (by (repeat (with_reducible first | exact HB.out | apply bl_alloc2 | apply bl_drew2 | apply bl_drewN2))) hb_); clear HB hb_; (try clear hq); have HB := HB_; clear HB_; have hq := CB.of HB.out)
          | (go_at_call 80; (with_reducible refine (plus_calls _ _ _ _ _ (by omega) (by omega)).mono ?_); rintro e_ w1 ⟨rfl, hb_⟩; (first | have HO_ := Lib.hid (own_below HO.out hb_) | have HO_ := Lib.hid (own_below_d HO.out hb_)); clear HO; have HO := HO_; clear HO_; have HB_ := Lib.hid (bl_then2 (by (repeat (with_reducible first | exact HB.out | apply bl_alloc2 | apply bl_drew2 | apply bl_drewN2))) hb_); clear HB hb_; (try clear hq); have HB := HB_; clear HB_; have hq := CB.of HB.out)
          | (refine app_gate 34 rfl ?_; refine step_append_lies _ (by rfl) _ _ _ (by rfl) W.heap.size 26 i0 _ 2 16 Try.underlying34 HZ.out.1 HZ.out.2.1 HZ.out.2.2.1 HZ.out.2.2.2 rfl (by decide) _ k _ (by rfl) (HO.out.alloc _) ⟨w1.heap.size, 0, none⟩ 1 1 (Rg.cs (beatAt a b c d e f g h k)) (by rfl) (by rfl) (World.news_of_block (cs := #[.int .i64 (e + (k * g - (b + k * d))), .int .i64 (f + (k * h - (a + k * c)))]) (t := 26) (fr := (0, 0)) (heap_alloc_new _ _)) ?a1 (by decide) ?a2 ?a3 ?a4 (w1.heap.size + 1) ?a5 ?_
             (case a1 => simp [Value.oneCell', Rg.cs])
             (case a2 => unfold maxLen; omega)
             (case a3 => omega)
             (case a4 => have := HB.out.size; simp; omega)
             (case a5 => simp)
             intro gg cap w2 hown2 hgrow hat hlt2
             have HB_ := Lib.hid (bl_grown (bl_alloc HB.out _) (bl_alloc HB.out _).size hgrow (fun q hq_ => (HO.out.lt q hq_).1)); clear HB hq; have HB := HB_; clear HB_; have hq := CB.of HB.out))
      go_wp2
      go_roundw
      case rel => exact ⟨k + 1, by omega, by go_num, by rw [beatsUp_succ, flat_snoc]; exact hown2, HB.out⟩
      case measure => simp [intOf]; omega
    · have hlt' : decide ((k : Int) < (P : Int) + 1) = false := by simp; omega
      go_wp2
      go_ret
      obtain rfl : k = P + 1 := by omega
      exact ⟨_, rfl, own_weaken HO.out (by have := H0W.out.size; omega), by (repeat (first | exact bl_then H0W.out HB.out | exact H0W.out | exact HB.out | exact Below.refl _ _ | refine bl_set ?_ (by assumption) _ | refine bl_alloc ?_ _ | refine bl_drew ?_ | refine bl_drewN ?_ _))⟩

end Go.Proofs.Ytnclljamcfoolaa
