/- Walk of meter.span at the tone of one tongue (the closure of meter.Tones, ears of one tone). A drawn region whose last operations come in one order, behind all others: the others in whatever order, then the last ones as a list. Walks of the reference of layer 2: the checks. Walks of what a count is true of: meter.count.is, meter.readingOf, ref02.True, ref02.fits; ears of one tone. -/
import Derived.Test.YtnclljamcfoolaaHd3
import Derived.StillTail
import Derived.Test.YtnclljamcfoolaaHd1
namespace Go.Proofs.Ytnclljamcfoolaa
open Go.RowKit
set_option linter.unusedVariables false
set_option linter.unusedSimpArgs false

def tnOf (t : T3) : Int := t.a
theorem tone72 (t : T3) (B1 : Nat) (w : World) (h1 : w.cell? ⟨B1, 0, none⟩ = some (.int .i64 0)) :
    Calls Try.prog 72 #[t.v, .pointer (some ⟨B1, 0, none⟩)] w fun e w' => e = .returned (.int .i64 (tnOf t)) ∧ Below w.heap.size w w' := by
  have l1 := World.block_lt_of_cell? w _ h1
  have a0 : (0 : Int) ≤ (0 : Int) := by omega
  go_enter Try.func72, Try.ntmps72
  go_upto_region 1 with (fail)
  generalize hW : w.alloc _ = W
  generalize h1_ : w.heap.size = g1
  obtain ⟨hB0_, Hg1, kg1, fg1, lg1, bg1⟩ := gen1 w _ _ hW h1_
  clear hW h1_
  have H0W := Lib.hid hB0_
  clear hB0_
  have HHg1 := Lib.hid Hg1
  clear Hg1
  have e1 := ((CB.of H0W.out).1 _ 0 l1).trans h1
  have m1 := World.block_lt_of_cell? W _ e1
  clear h1 l1
  go_wp2
  go_ret
  exact ⟨rfl, H0W.out⟩

set_option maxRecDepth 100000 in
set_option maxHeartbeats 1000000 in
theorem span72 (l : List T3) (g0 cap B1 : Nat) (hl : l.length ≤ 1000000) (hl0 : 0 < l.length) (w : World) (hR : Row T3.cs 3 w (some ⟨g0, 0, none⟩) l) (h1 : w.cell? ⟨B1, 0, none⟩ = some (.int .i64 0)) :
    Calls Try.prog 44 #[.slice (some ⟨g0, 0, none⟩) l.length cap, .func (.func 72) #[] #[.pointer (some ⟨B1, 0, none⟩)]] w fun e w' => e = .returned (.agg #[.int .i64 (mnOf (tnOf) l (tnOf l[0])), .int .i64 (mxOf (tnOf) l (tnOf l[0]))]) ∧ Below w.heap.size w w' := by
  have l1 := World.block_lt_of_cell? w _ h1
  have HR := Lib.hid hR
  clear hR
  obtain ⟨b, o, hA, hlb, c0, c1, c2⟩ := HR.out.t3 0 hl0
  obtain ⟨rfl, rfl⟩ : g0 = b ∧ 0 = o := by simpa using hA
  clear hA
  simp only [Nat.zero_mul, Nat.zero_add] at c0 c1 c2
  go_enter Try.func44, Try.ntmps44
  go_upto_region 1 with (fail)
  generalize hW : w.alloc _ = W
  generalize h1_ : w.heap.size = g1
  obtain ⟨hB0_, Hg1, kg1, fg1, lg1, bg1⟩ := gen1 w _ _ hW h1_
  clear hW h1_
  have H0W := Lib.hid hB0_
  clear hB0_
  have HHg1 := Lib.hid Hg1
  clear Hg1
  have HB := Lib.hid (Below.refl W.heap.size W)
  have hq0 := CB.of H0W.out
  have e1 := (hq0.1 _ 0 l1).trans h1
  have d0 := (hq0.1 _ 0 hlb).trans c0
  have d1 := (hq0.1 _ 1 hlb).trans c1
  have d2 := (hq0.1 _ 2 hlb).trans c2
  have m1 := World.block_lt_of_cell? W _ e1
  have mg := World.block_lt_of_cell? W _ d0
  clear hq0 c0 c1 c2
  go_upto_region 1 with (fail)
  go_cut [5] (fun s5 wx => ∃ g5 : Nat, s5 = .pointer (some ⟨g5, 0, none⟩) ∧ Below W.heap.size W wx ∧ W.heap.size ≤ g5 ∧ g5 < wx.heap.size ∧ wx.cell? ⟨g5, 0, none⟩ = some (.int .i64 (tnOf l[0])) ∧ wx.cell? ⟨g5, 1, none⟩ = some (.int .i64 (tnOf l[0])) ∧ wx.frozen? ⟨g5, 0, none⟩ = false ∧ wx.frozen? ⟨g5, 1, none⟩ = false)
  case first =>
    go_region_held3 (fun w' => w'.cell? ⟨g0, 0, none⟩ = some (.int .i64 l[0].a) ∧ w'.cell? ⟨g0, 1, none⟩ = some (.int .i64 l[0].b) ∧ w'.cell? ⟨g0, 2, none⟩ = some (.int .i64 l[0].c))
      (first | exact ⟨(hq.1 _ _ mg).trans d0, (hq.1 _ _ mg).trans d1, (hq.1 _ _ mg).trans d2⟩ | exact ⟨((CB.of (bl_drew HB.out)).1 _ _ mg).trans d0, ((CB.of (bl_drew HB.out)).1 _ _ mg).trans d1, ((CB.of (bl_drew HB.out)).1 _ _ mg).trans d2⟩ | exact ⟨((CB.of (bl_alloc HB.out _)).1 _ _ mg).trans d0, ((CB.of (bl_alloc HB.out _)).1 _ _ mg).trans d1, ((CB.of (bl_alloc HB.out _)).1 _ _ mg).trans d2⟩ | exact ⟨((CB.of (bl_alloc (bl_drew HB.out) _)).1 _ _ mg).trans d0, ((CB.of (bl_alloc (bl_drew HB.out) _)).1 _ _ mg).trans d1, ((CB.of (bl_alloc (bl_drew HB.out) _)).1 _ _ mg).trans d2⟩ | exact ⟨((CB.of (bl_set (bl_set HB.out (by assumption) _) (by assumption) _)).1 _ _ mg).trans d0, ((CB.of (bl_set (bl_set HB.out (by assumption) _) (by assumption) _)).1 _ _ mg).trans d1, ((CB.of (bl_set (bl_set HB.out (by assumption) _) (by assumption) _)).1 _ _ mg).trans d2⟩ | go_keep)
      (first
      | (go_at_call 72; refine (tone72 l[0] B1 _ (((CB.of (by (repeat (with_reducible first | exact HB.out | apply bl_alloc2 | apply bl_drew2 | apply bl_drewN2)))).1 _ 0 m1).trans e1)).mono ?_; rintro e_ w1 ⟨rfl, hb_⟩; have hqq := CB.of hb_; have hsz := HB.out.size; have HB_ := Lib.hid (bl_then2 (by (repeat (with_reducible first | exact HB.out | apply bl_alloc2 | apply bl_drew2 | apply bl_drewN2))) hb_); clear HB hb_; (try clear hq); have HB := HB_; clear HB_; have hq := CB.of HB.out))
    all_goals (go_wp2_with fail; go_meet; refine ⟨_, rfl, (by first | exact bl_alloc HB.out _ | exact bl_set (bl_set HB.out (by assumption) _) (by assumption) _), (by first | assumption | exact HB.out.size), ?_, ?_, ?_, ?_, ?_⟩ <;> simp [go_sem, tnOf, *] <;> (refine World.cell?_setCell_same' _ _ _ ?_; simp [go_sem, *]))
  case rest =>
    obtain ⟨g5, rfl, hb, b5, l5, k0, k1, f0, f1⟩ := hcut
    have HB := Lib.hid hb
    clear hb
    have hq := CB.of HB.out
    go_upto_block 0 with (fail)
    go_wp2_with fail
    go_loopw [21] (fun i wr => ∃ k : Nat, k ≤ l.length ∧ i = .int .i64 k ∧ Below W.heap.size W wr ∧ g5 < wr.heap.size ∧ wr.cell? ⟨g5, 0, none⟩ = some (.int .i64 (mnOf (tnOf) (l.take k) (tnOf l[0]))) ∧ wr.cell? ⟨g5, 1, none⟩ = some (.int .i64 (mxOf (tnOf) (l.take k) (tnOf l[0]))) ∧ wr.frozen? ⟨g5, 0, none⟩ = false ∧ wr.frozen? ⟨g5, 1, none⟩ = false)
      (fun i _ => l.length - (intOf i).toNat)
    case atStart => exact ⟨0, Nat.zero_le _, rfl, HB.out, l5, k0, k1, f0, f1⟩
    case round =>
      obtain ⟨k, hk, rfl, hb, l5, k0, k1, f0, f1⟩ := hrel
      clear HB hq
      by_cases hlt : k < l.length
      · have hlti : ((k : Int) < (l.length : Int)) := by omega
        have HBr := Lib.hid hb
        have HRr := Lib.hid ((HR.out.below H0W.out).below HBr.out)
        obtain ⟨b, o, hA, hlb', c0, c1, c2⟩ := HRr.out.t3 k hlt
        obtain ⟨rfl, rfl⟩ : g0 = b ∧ 0 = o := by simpa using hA
        clear hA
        simp only [Nat.zero_add] at c0 c1 c2
        go_upto_region 5 with (fail)
        generalize hW : wr.alloc _ = V
        generalize h1_ : wr.heap.size = x1
        obtain ⟨hB0_, Hx1, kx1, fx1, lx1, bx1⟩ := gen1 wr _ _ hW h1_
        clear hW h1_
        have H0V := Lib.hid hB0_
        clear hB0_
        have HHx1 := Lib.hid Hx1
        clear Hx1
        have HB := Lib.hid (Below.refl V.heap.size V)
        have hqV := CB.of H0V.out
        have hqr := CB.of HBr.out
        have E1 := (hqV.1 _ 0 (Nat.lt_of_lt_of_le m1 HBr.out.size)).trans ((hqr.1 _ 0 m1).trans e1)
        have G0 := (hqV.1 _ 0 l5).trans k0
        have G1 := (hqV.1 _ 1 l5).trans k1
        have F0 := (hqV.2.1 _ 0 l5).trans f0
        have F1 := (hqV.2.1 _ 1 l5).trans f1
        have M1 := World.block_lt_of_cell? V _ E1
        have M5 := World.block_lt_of_cell? V _ G0
        clear hqV hqr k0 k1 f0 f1 c0 c1 c2
        have hq := CB.of HB.out
        have hmn := Lib.hid (show mnOf (tnOf) (l.take (k + 1)) (tnOf l[0]) = min (mnOf (tnOf) (l.take k) (tnOf l[0])) (tnOf l[k]) by
          unfold mnOf; rw [List.take_succ_eq_append_getElem hlt, List.foldl_append]; rfl)
        have hmx := Lib.hid (show mxOf (tnOf) (l.take (k + 1)) (tnOf l[0]) = max (mxOf (tnOf) (l.take k) (tnOf l[0])) (tnOf l[k]) by
          unfold mxOf; rw [List.take_succ_eq_append_getElem hlt, List.foldl_append]; rfl)
        have hB := Lib.hid (tone72 l[k] B1)
        change Hid (∀ w : World, _ → Calls _ _ _ _ fun e w' => e = .returned (.int .i64 (tnOf l[k])) ∧ _) at hB
        generalize mnOf (tnOf) (l.take k) (tnOf l[0]) = X at *
        generalize mxOf (tnOf) (l.take k) (tnOf l[0]) = Y at *
        generalize tnOf l[k] = Z at *
        refine wp_region_peel (S := fun w' => (∀ j, w'.cell? ⟨x1, j, none⟩ = #[Value.int IntKind.i64 l[k].a, Value.int IntKind.i64 l[k].b, Value.int IntKind.i64 l[k].c][j]?) ∧ w'.cell? ⟨g5, 0, none⟩ = some (.int .i64 X) ∧ w'.cell? ⟨g5, 1, none⟩ = some (.int .i64 Y) ∧ Below V.heap.size V w') 13 _ _ (by kernel_rfl) rfl rfl rfl (by kernel_rfl) (by kernel_rfl) ⟨kx1, G0, G1, bl_drew (Below.refl _ _)⟩ (fun hHeld => ?_)
        simp only [Act.put, stillOf, List.set_cons_succ, List.set_cons_zero, List.setIfInBounds_toArray, List.getElem_toArray, List.getElem_cons_succ, List.getElem_cons_zero]
        refine wpAnyH_take (i := 0) (v := ?_) rfl (by kernel_rfl) (by kernel_rfl) (by kernel_rfl) (fun _ _ _ h => h) (Or.inl ⟨by rfl, ?_⟩) (by assumption) ?_; rotate_left 1; (focus ((intro w_ hS_; (try dsimp only at hS_); go_simp; first | done | with_reducible rfl))); simp only [Act.put, stillOf, List.set_cons_succ, List.set_cons_zero, List.setIfInBounds_toArray, List.getElem_toArray, List.getElem_cons_succ, List.getElem_cons_zero]
        refine wpAnyH_take (i := 1) (v := ?_) rfl (by kernel_rfl) (by kernel_rfl) (by kernel_rfl) (fun _ _ _ h => h) (Or.inl ⟨by rfl, ?_⟩) (by assumption) ?_; rotate_left 1; (focus ((intro w_ hS_; (try dsimp only at hS_); go_simp; first | done | with_reducible rfl))); simp only [Act.put, stillOf, List.set_cons_succ, List.set_cons_zero, List.setIfInBounds_toArray, List.getElem_toArray, List.getElem_cons_succ, List.getElem_cons_zero]
        refine wpAnyH_take (i := 2) (v := ?_) rfl (by kernel_rfl) (by kernel_rfl) (by kernel_rfl) (fun _ _ _ h => h) (Or.inl ⟨by rfl, ?_⟩) (by assumption) ?_; rotate_left 1; (focus ((intro w_ hS_; (try dsimp only at hS_); go_simp; first | done | with_reducible rfl))); simp only [Act.put, stillOf, List.set_cons_succ, List.set_cons_zero, List.setIfInBounds_toArray, List.getElem_toArray, List.getElem_cons_succ, List.getElem_cons_zero]
        refine wpAnyH_take (i := 3) (v := ?_) rfl (by kernel_rfl) (by kernel_rfl) (by kernel_rfl) (fun _ _ _ h => h) (Or.inl ⟨by rfl, ?_⟩) (by assumption) ?_; rotate_left 1; (focus ((intro w_ hS_; (try dsimp only at hS_); go_simp; first | done | with_reducible rfl))); simp only [Act.put, stillOf, List.set_cons_succ, List.set_cons_zero, List.setIfInBounds_toArray, List.getElem_toArray, List.getElem_cons_succ, List.getElem_cons_zero]
        refine wpAnyH_take (i := 6) (v := ?_) rfl (by kernel_rfl) (by kernel_rfl) (by kernel_rfl) (fun _ _ _ h => h) (Or.inl ⟨by rfl, ?_⟩) (by assumption) ?_; rotate_left 1; (focus ((intro w_ hS_; (try dsimp only at hS_); go_simp; first | done | with_reducible rfl))); simp only [Act.put, stillOf, List.set_cons_succ, List.set_cons_zero, List.setIfInBounds_toArray, List.getElem_toArray, List.getElem_cons_succ, List.getElem_cons_zero]
        refine wpAnyH_take (i := 7) (v := ?_) rfl (by kernel_rfl) (by kernel_rfl) (by kernel_rfl) (fun _ _ _ h => h) (Or.inl ⟨by rfl, ?_⟩) (by assumption) ?_; rotate_left 1; (focus ((intro w_ hS_; (try dsimp only at hS_); go_simp; first | done | with_reducible rfl))); simp only [Act.put, stillOf, List.set_cons_succ, List.set_cons_zero, List.setIfInBounds_toArray, List.getElem_toArray, List.getElem_cons_succ, List.getElem_cons_zero]
        refine wpAnyH_take (i := 8) (v := ?_) rfl (by kernel_rfl) (by kernel_rfl) (by kernel_rfl) (fun _ _ _ h => h) (Or.inl ⟨by rfl, ?_⟩) (by assumption) ?_; rotate_left 1; (focus ((intro w_ hS_; (try dsimp only at hS_); go_simp; first | done | with_reducible rfl))); simp only [Act.put, stillOf, List.set_cons_succ, List.set_cons_zero, List.setIfInBounds_toArray, List.getElem_toArray, List.getElem_cons_succ, List.getElem_cons_zero]
        refine wpAnyH_take (i := 9) (v := ?_) rfl (by kernel_rfl) (by kernel_rfl) (by kernel_rfl) (fun _ _ _ h => h) (Or.inl ⟨by rfl, ?_⟩) (by assumption) ?_; rotate_left 1; (focus ((intro w_ hS_; (try dsimp only at hS_); go_simp; first | done | with_reducible rfl))); simp only [Act.put, stillOf, List.set_cons_succ, List.set_cons_zero, List.setIfInBounds_toArray, List.getElem_toArray, List.getElem_cons_succ, List.getElem_cons_zero]
        refine wpAnyH_ready (rs := [4]) (by kernel_rfl) (by simp) (AllReadyH.cons rfl (fun K hK => ?_) AllReadyH.nil)
        go_simp
        (go_at_call 72; refine (hB.out _ (((CB.of (by (repeat (with_reducible first | exact HB.out | apply bl_alloc2 | apply bl_drew2 | apply bl_drewN2)))).1 _ 0 M1).trans E1)).mono ?_; rintro e_ w1 ⟨rfl, hb_⟩; have HB_ := Lib.hid (bl_then2 (by (repeat (with_reducible first | exact HB.out | apply bl_alloc2 | apply bl_drew2 | apply bl_drewN2))) hb_); clear HB hb_; (try clear hq); have HB := HB_; clear HB_; have hq := CB.of HB.out)
        refine hK.out _ _ ⟨fun j => (hq.1 _ _ lx1).trans (kx1 j), (hq.1 _ _ M5).trans G0, (hq.1 _ _ M5).trans G1, HB.out⟩ (fun hHeld => ?_)
        clear hK K
        refine wpAnyH_take (i := 5) (v := ?_) rfl (by kernel_rfl) (by kernel_rfl) (by kernel_rfl) (fun _ _ _ h => h) (Or.inl ⟨by rfl, ?_⟩) (by assumption) ?_; rotate_left 1; (focus ((intro w_ hS_; (try dsimp only at hS_); go_simp; first | done | with_reducible rfl))); simp only [Act.put, stillOf, List.set_cons_succ, List.set_cons_zero, List.setIfInBounds_toArray, List.getElem_toArray, List.getElem_cons_succ, List.getElem_cons_zero]
        refine wpAnyH_ready (rs := [10]) (by kernel_rfl) (by simp) (AllReadyH.cons rfl (fun K hK => ?_) AllReadyH.nil)
        go_simp
        (go_at_call 72; refine (hB.out _ (((CB.of (by (repeat (with_reducible first | exact HB.out | apply bl_alloc2 | apply bl_drew2 | apply bl_drewN2)))).1 _ 0 M1).trans E1)).mono ?_; rintro e_ w1 ⟨rfl, hb_⟩; have HB_ := Lib.hid (bl_then2 (by (repeat (with_reducible first | exact HB.out | apply bl_alloc2 | apply bl_drew2 | apply bl_drewN2))) hb_); clear HB hb_; (try clear hq); have HB := HB_; clear HB_; have hq := CB.of HB.out)
        refine hK.out _ _ ⟨fun j => (hq.1 _ _ lx1).trans (kx1 j), (hq.1 _ _ M5).trans G0, (hq.1 _ _ M5).trans G1, HB.out⟩ (fun hHeld => ?_)
        clear hK K
        refine wpAnyH_take (i := 11) (v := ?_) rfl (by kernel_rfl) (by kernel_rfl) (by kernel_rfl) (fun _ _ _ h => h) (Or.inl ⟨by rfl, ?_⟩) (by assumption) ?_; rotate_left 1; (focus ((intro w_ hS_; (try dsimp only at hS_); go_simp; first | done | with_reducible rfl))); simp only [Act.put, stillOf, List.set_cons_succ, List.set_cons_zero, List.setIfInBounds_toArray, List.getElem_toArray, List.getElem_cons_succ, List.getElem_cons_zero]
        refine wpAnyH_take (i := 12) (v := ?_) rfl (by kernel_rfl) (by kernel_rfl) (by kernel_rfl) (fun _ _ _ h => h) (Or.inl ⟨by rfl, ?_⟩) (by assumption) ?_; rotate_left 1; (focus ((intro w_ hS_; (try dsimp only at hS_); go_simp; first | done | with_reducible rfl))); simp only [Act.put, stillOf, List.set_cons_succ, List.set_cons_zero, List.setIfInBounds_toArray, List.getElem_toArray, List.getElem_cons_succ, List.getElem_cons_zero]
        refine wpAnyH_take (i := 13) (v := ?_) rfl (by kernel_rfl) (by kernel_rfl) (by kernel_rfl) (fun _ _ _ h => h) (Or.inl ⟨by rfl, ?_⟩) (by assumption) ?_; rotate_left 1; (focus ((intro w_ hS_; (try dsimp only at hS_); go_simp; first | done | with_reducible rfl))); simp only [Act.put, stillOf, List.set_cons_succ, List.set_cons_zero, List.setIfInBounds_toArray, List.getElem_toArray, List.getElem_cons_succ, List.getElem_cons_zero]
        refine wpAnyH_done (by kernel_rfl) ?_ _
        have Z0 := (hq.1 _ _ M5).trans G0
        have Z1 := (hq.1 _ _ M5).trans G1
        have Y0 := (hq.2.1 _ 0 M5).trans F0
        have Y1 := (hq.2.1 _ 1 M5).trans F1
        unfold Peeled
        dsimp only
        go_simp
        go_wp2_with fail
        have e0 : (if Z < X then Z else X) = min X Z := by split <;> omega
        have e9 : (if Y < Z then Z else Y) = max Y Z := by split <;> omega
        rw [e0, e9]
        have hbb := bl_then HBr.out (bl_then (H0V.out) (HB.out))
        have l6 : g5 < w1.heap.size := Nat.lt_of_lt_of_le M5 HB.out.size
        refine ⟨⟨k + 1, by omega, by simp, bl_set (bl_set hbb b5 _) b5 _, by simpa using l6, ?_, ?_, ?_, ?_⟩, ?_⟩
        · rw [hmn.out]; simp [go_sem, Z0, Z1]
        · rw [hmx.out]; simp [go_sem, Z0, Z1]
        · simp [go_sem, Y0, Y1]
        · simp [go_sem, Y0, Y1]
        · simp [intOf]; omega
      · have hkl : k = l.length := by omega
        subst hkl
        rw [List.take_length] at k0 k1
        go_wp2_with ((with_reducible refine st_gate 26 rfl ?_); refine wpList_store_row rfl 26 _ _ rfl g1 _ rfl rfl 26 _ ((hb.block _ lg1).trans HHg1.out) size26m (by simp) (by simp [Value.oneCell']) ?_)
        exact ret_row rfl g1 26 _ _ rfl (setRow_heap ((hb.block _ lg1).trans HHg1.out)) Try.underlying26 rfl size26m rfl ⟨rfl, bl_setRow (bl_then H0W.out hb) bg1 _⟩

end Go.Proofs.Ytnclljamcfoolaa
namespace Go.Proofs.Ytnclljamcfoolaa
open Go.RowKit
set_option linter.unusedVariables false
set_option linter.unusedSimpArgs false

section
variable {P : Program} {md : Region.Mode} {ops : Array Oper} {Q : Exit → Act → World → Prop} {S : World → Prop}
/-- the post of the region without its tail -/
def Tailed (P : Program) (ops : Array Oper) (Q : Exit → Act → World → Prop) (l : List Oper) : Exit → Act → World → Prop
  | .normal, a, w => wpList P ops Q l a w
  | e, a, w => Q e a w
theorem Tailed.out {l : List Oper} : LetsOut (Tailed P ops Q l) → LetsOut Q := fun ⟨a, w, h⟩ => ⟨a, w, h⟩
theorem wp_tailed {l : List Oper} {x : Oper} {a : Act} {w : World} {K K' : Act → World → Prop} (h : ∀ a w, K a w → K' a w) (hh : x.wp P a w K (Tailed P ops Q l)) : x.wp P a w K' Q := by
  unfold Oper.wp at *
  generalize (execOp a.eval x).run P w = r at *
  cases r with
  | ok n w' =>
    cases n <;> simp only [Oper.upon] at hh ⊢ <;>
      first
        | exact h _ _ hh
        | exact Calls.mono hh (fun e w'' he => by cases e <;> first | exact h _ _ he | exact he | exact Tailed.out he)
        | exact Rows.mono hh (fun _ _ he => h _ _ he)
  | halt x w' => cases x <;> simp only [Oper.upon] at hh ⊢ <;> first | exact hh | exact Tailed.out hh

theorem wpAny_of_seq' {Q' : Exit → Act → World → Prop} : ∀ (l : List Oper) (k : Nat) (listed : Array Bool) (a : Act) (w : World) (fuel : Nat), (∀ j, l[j]? = ops[k + j]?) → Region.seqB md ops l.length k listed = true → l.length ≤ fuel → wpList P ops Q' l a w → wpAny P md ops Q' fuel listed a w
  | [], _, _, _, _, fuel, _, hB, _, h => wpAny_done (by simpa [Region.seqB] using hB) h fuel
  | o :: l, k, listed, a, w, 0, _, _, hf, _ => by simp at hf
  | o :: l, k, listed, a, w, fuel + 1, hl, hB, hf, h => by
    have h0 : ops[k]? = some o := by simpa using (hl 0).symm
    simp only [List.length_cons, Region.seqB, Bool.and_eq_true, decide_eq_true_eq] at hB
    refine ⟨fun h1 => (by rw [hB.1] at h1; cases h1), fun i hi => ?_⟩
    rw [hB.1] at hi
    have hik : i = k := by simpa using hi
    subst hik
    have hw : wpOp P ops Q' i (wpList P ops Q' l) a w := by unfold wpOp; simp only [h0]; exact h
    exact wpOp_mono (fun a' w' h' => wpAny_of_seq' l (i + 1) _ a' w' fuel (fun j => by have := hl (j + 1); simpa [Nat.add_assoc, Nat.add_comm 1 j] using this) hB.2 (by simpa using hf) h') hw

/-- the first n come up -/
def doneB (n m : Nat) : Array Bool := ((List.range m).map fun i => decide (i < n)).toArray
theorem doneB_eq {n : Nat} {listed : Array Bool} (inv : HeadInv md ops n listed) (h : ∀ i, i < n → listed.getD i false = true) : listed = doneB n ops.size := by
  refine Array.ext ?_ fun i h1 h2 => ?_
  · simp [doneB, inv.size]
  · have h3 : i < ops.size := inv.size ▸ h1
    simp only [doneB, List.getElem_toArray, List.getElem_map, List.getElem_range]
    by_cases hi : i < n
    · have := h i hi
      simp [Array.getD, h1] at this
      simp [hi, this]
    · have := inv.tail i (by omega) h3
      simp [Array.getD, h1] at this
      simp [hi, this]

theorem wpAny_tail {n : Nat} {ops1 : Array Oper} (hn : n < ops.size) (h1 : ops1.size = n) (he : ∀ i, i < n → ops1[i]? = ops[i]?) (hs : Region.sinkB md ops n = true) (hc : Region.chainB md ops n = true) (hq : Region.seqB md ops (ops.size - n) n (doneB n ops.size) = true)
    (hwf : ∀ (i : Nat) (x : Oper), i < n → ops[i]? = some x → x.guard = none ∧ ∀ e ∈ x.after, Region.binds md e = true → e.on < i) :
    ∀ (f : Nat) (listed : Array Bool) (a : Act) (w : World), HeadInv md ops n listed → wpAnyH P md ops1 (Tailed P ops Q (ops.toList.drop n)) S f listed a w → wpAny P md ops Q (f + (ops.size - n)) listed a w := by
  intro f
  induction f with
  | zero =>
    intro listed a w inv h
    have hall : ∀ i, i < n → listed.getD i false = true := by
      intro i
      induction i using Nat.strongRecOn with
      | _ i ih =>
        intro hi
        obtain ⟨x, hx⟩ : ∃ x, ops[i]? = some x := ⟨ops[i]'(by omega), Array.getElem?_eq_getElem (by omega)⟩
        have hr : i ∉ Region.ready md ops1 listed := by rw [h.1]; simp
        rw [mem_ready] at hr
        have hli : listed.getD i true ≠ false := fun hh => hr ⟨hh, x, (he i hi).trans hx, fun e hee hb => by have := (hwf i x hi hx).2 e hee hb; exact ih _ this (by omega)⟩
        have hlt : i < listed.size := by rw [inv.size]; omega
        simp [Array.getD, hlt] at hli ⊢
        exact hli
    have hd := doneB_eq inv hall
    rw [hd]
    exact wpAny_of_seq' (ops.toList.drop n) n _ a w _ (fun j => by simp) (by simpa using hq) (by simp) h.2
  | succ f ih =>
    intro listed a w inv h
    by_cases hr : Region.ready md ops1 listed = []
    · have hall : ∀ i, i < n → listed.getD i false = true := by
        intro i
        induction i using Nat.strongRecOn with
        | _ i ih =>
          intro hi
          obtain ⟨x, hx⟩ : ∃ x, ops[i]? = some x := ⟨ops[i]'(by omega), Array.getElem?_eq_getElem (by omega)⟩
          have hr : i ∉ Region.ready md ops1 listed := by rw [hr]; simp
          rw [mem_ready] at hr
          have hli : listed.getD i true ≠ false := fun hh => hr ⟨hh, x, (he i hi).trans hx, fun e hee hb => by have := (hwf i x hi hx).2 e hee hb; exact ih _ this (by omega)⟩
          have hlt : i < listed.size := by rw [inv.size]; omega
          simp [Array.getD, hlt] at hli ⊢
          exact hli
      have hd := doneB_eq inv hall
      have hl := h.1 hr
      rw [hd]
      exact wpAny_of_seq' (ops.toList.drop n) n _ a w _ (fun j => by simp) (by simpa using hq) (by simp) hl
    · obtain ⟨i0, hi0⟩ := List.exists_mem_of_ne_nil _ hr
      obtain ⟨hu0, x0, hx0, ha0⟩ := mem_ready.1 hi0
      have hi0n : i0 < n := by rw [← h1]; exact (Array.getElem?_eq_some_iff.1 hx0).1
      have hr0 : i0 ∈ Region.ready md ops listed := mem_ready.2 ⟨hu0, x0, (he i0 hi0n).symm.trans hx0, ha0⟩
      rw [show f + 1 + (ops.size - n) = (f + (ops.size - n)) + 1 by omega]
      refine ⟨fun h0 => (by rw [h0] at hr0; cases hr0), fun i hi => ?_⟩
      have hin : i < n := by
        rcases Nat.lt_or_ge i n with hlt | hge
        · exact hlt
        · exact absurd hi (tail_waits hs hc hn inv _ i0 rfl hi0n hu0 i hge)
      obtain ⟨hu, x, hx, hax⟩ := mem_ready.1 hi
      have hi1 : i ∈ Region.ready md ops1 listed := mem_ready.2 ⟨hu, x, (he i hin).trans hx, hax⟩
      have h2 := h.2 i hi1
      have hg := (hwf i x hin hx).1
      unfold wpOp at h2 ⊢
      rw [he i hin] at h2
      simp only [hx] at h2 ⊢
      rw [if_pos (by simp [Region.wanted, hg])] at h2 ⊢
      exact h2.imp (wp_tailed fun a' w' h3 => ih _ a' w' (inv.set hi hin) h3.2) (fun h => ⟨h.1, Tailed.out h.2⟩)

theorem wp_region_tail {id : Nat} {a : Act} {w : World} (n : Nat) (l1 l2 : List Oper) (hm : P.follows .mixedOrders = true) (h1 : ops.toList.take n = l1) (h2 : ops.toList.drop n = l2) (hn : n < ops.size)
    (hB : (Region.sinkB .any ops n && Region.chainB .any ops n && Region.seqB .any ops (ops.size - n) n (doneB n ops.size) && (List.range n).all fun i => match ops[i]? with | some x => x.guard.isNone && x.after.all fun e => !Region.binds .any e || decide (e.on < i) | none => true) = true)
    (hS : S w.drew) (h : S w.drew → wpAnyH P .any l1.toArray (Tailed P ops Q l2) S n (Array.replicate ops.size false) a w.drew) : (Code.region id ops true).wp P Q a w := by
  subst h1 h2
  simp only [Bool.and_eq_true] at hB
  obtain ⟨⟨⟨hs, hc⟩, hq⟩, hw⟩ := hB
  refine wp_region_any hm ?_
  have inv0 : HeadInv .any ops n (Array.replicate ops.size false) :=
    ⟨by simp, fun j oj _ hl => (by rw [getD_replicate_false] at hl; cases hl), fun t _ ht => getD_in (by simpa using ht) (getD_replicate_false _ _)⟩
  have := wpAny_tail (Q := Q) (S := S) (P := P) (ops1 := (ops.toList.take n).toArray) hn (by simp; omega) (fun i hi => by simp [hi]) hs hc hq (fun i x hi hx => by
    have := List.all_eq_true.1 hw i (List.mem_range.2 hi)
    rw [hx] at this
    simp only [Bool.and_eq_true, Option.isNone_iff_eq_none, Array.all_eq_true_iff_forall_mem, Bool.or_eq_true, Bool.not_eq_true', decide_eq_true_eq] at this
    exact ⟨this.1, fun e he hb => (this.2 e he).resolve_left (by rw [hb]; simp)⟩) n _ a w.drew inv0 (h hS)
  rw [show n + (ops.size - n) = ops.size by omega] at this
  exact this
end

end Go.Proofs.Ytnclljamcfoolaa
namespace Go.Proofs.Ytnclljamcfoolaa
open Go.RowKit
set_option linter.unusedVariables false
set_option linter.unusedSimpArgs false

theorem among2_calls (n lo hi : Int) (w : World) : Calls Try.prog 38 #[.int .i64 n, .int .i64 lo, .int .i64 hi] w fun e w' => e = .returned (.bool (inB n lo hi)) ∧ w = w' := by
  unfold inB
  go_enter Try.func38, Try.ntmps38
  go_wp2
  all_goals go_ret
  all_goals exact ⟨by simp [*] <;> omega, rfl⟩

set_option maxHeartbeats 1000000 in
theorem checkRange2_calls (x : Rg) (lo hi : Int) (w : World) :
    Calls Try.prog 39 #[.agg #[.int .i64 x.mn, .int .i64 x.mx], .int .i64 lo, .int .i64 hi] w fun e w' => e = .returned (.int .i64 (rgErr x lo hi)) ∧ Below w.heap.size w w' := by
  go_enter Try.func39, Try.ntmps39
  go_wp2_with (go_at_call 38; (with_reducible refine (among2_calls _ _ _ _).mono ?_); rintro e_ w1 ⟨rfl, rfl⟩)
  all_goals (go_ret; refine ⟨ret_int ?_, by (repeat (first | assumption | exact Below.refl _ _ | refine bl_alloc ?_ _ | refine bl_drew ?_ | refine bl_drewN ?_ _))⟩; go_tidy; unfold rgErr; simp_all)

set_option maxHeartbeats 2000000 in
theorem checkReading2_calls (r : Rd) (n : Nat) (w : World) (hn : n ≤ 100) :
    Calls Try.prog 40 #[.agg #[.int .i64 r.kind, .int .i64 r.a, .int .i64 r.b, .int .i64 r.secs, .int .i64 r.shown.mn, .int .i64 r.shown.mx], .int .i64 n] w fun e w' => e = .returned (.int .i64 (readErr r n)) ∧ Below w.heap.size w w' := by
  go_enter Try.func40, Try.ntmps40
  go_wp2_with (first | (go_at_call 38; (with_reducible refine (among2_calls _ _ _ _).mono ?_); rintro e_ w1 ⟨rfl, rfl⟩) | (go_at_call 39; refine (checkRange2_calls r.shown _ _ _).mono ?_; rintro e_ w1 ⟨rfl, hb_⟩))
  all_goals (go_ret; refine ⟨ret_int ?_, by first | (refine bl_then ?_ hb_; (repeat (first | assumption | exact Below.refl _ _ | refine bl_alloc ?_ _ | refine bl_drew ?_ | refine bl_drewN ?_ _)); done) | (repeat (first | assumption | exact Below.refl _ _ | refine bl_alloc ?_ _ | refine bl_drew ?_ | refine bl_drewN ?_ _))⟩; go_tidy; unfold readErr; (try unfold rgErr); simp_all; try (first | omega | (intro h_; exfalso; omega)))

set_option maxRecDepth 100000 in
set_option maxHeartbeats 1000000 in
theorem ref2Check_calls (e : Ear) (A1 A2 : Option Addr) (c1 c2 : Nat) (w : World) (h1 : Row Rg.cs 2 w A1 e.tones) (h2 : Row Rd.cs 6 w A2 e.reads) (hm1 : e.tones.length ≤ 1000000000000000) (hm2 : e.reads.length ≤ 1000000000000000) :
    Calls Try.prog 9 #[.agg #[.int .i64 e.slack, .slice A1 e.tones.length c1, .slice A2 e.reads.length c2]] w fun ed w' => ed = .returned (.int .i64 (earErr e)) ∧ Below w.heap.size w w' := by
  go_enter Try.func9, Try.ntmps9
  go_upto_region 1 with (fail)
  generalize hW : w.alloc _ = W
  generalize h1_ : w.heap.size = g1
  obtain ⟨hB0_, Hg1, kg1, fg1, lg1, bg1⟩ := gen1 w _ _ hW h1_
  clear hW h1_
  have H0W := Lib.hid hB0_
  clear hB0_
  have HHg1 := Lib.hid Hg1
  clear Hg1
  go_wp2_with (go_at_call 38; (with_reducible refine (among2_calls _ _ _ _).mono ?_); rintro e_ w1 ⟨rfl, rfl⟩)
  · (go_ret; refine ⟨ret_int ?_, by (repeat (first | exact bl_then H0W.out HB.out | exact H0W.out | exact HB.out | exact Below.refl _ _ | refine bl_set ?_ (by assumption) _ | refine bl_alloc ?_ _ | refine bl_drew ?_ | refine bl_drewN ?_ _))⟩; go_tidy; unfold earErr; simp_all; try omega)
  · (go_ret; refine ⟨ret_int ?_, by (repeat (first | exact bl_then H0W.out HB.out | exact H0W.out | exact HB.out | exact Below.refl _ _ | refine bl_set ?_ (by assumption) _ | refine bl_alloc ?_ _ | refine bl_drew ?_ | refine bl_drewN ?_ _))⟩; go_tidy; unfold earErr; simp_all; try omega)
  · (go_ret; refine ⟨ret_int ?_, by (repeat (first | exact bl_then H0W.out HB.out | exact H0W.out | exact HB.out | exact Below.refl _ _ | refine bl_set ?_ (by assumption) _ | refine bl_alloc ?_ _ | refine bl_drew ?_ | refine bl_drewN ?_ _))⟩; go_tidy; unfold earErr; simp_all; try omega)
  have hA := Lib.hid (show (inB e.slack 0 3 = true) ∧ e.tones.length ≠ 0 ∧ e.tones.length ≤ 3 by go_tidy; simp_all; try omega)
  rename (!inB e.slack 0 3) = false => t1
  rename ((e.tones.length : Int) == 0) = false => t2
  clear t1 t2
  have h1' := Lib.hid (h1.below H0W.out)
  have h2' := Lib.hid (h2.below H0W.out)
  clear h1 h2
  go_loopw [3] (fun i wr => ∃ k : Nat, k ≤ e.tones.length ∧ i = .int .i64 k ∧ Below W.heap.size W wr ∧ firstErr toneErr e.tones = firstErr toneErr (e.tones.drop k))
    (fun i _ => e.tones.length - (intOf i).toNat)
  case atStart => exact ⟨0, Nat.zero_le _, rfl, Below.refl _ _, rfl⟩
  case round =>
    obtain ⟨k, hk, rfl, hb, hf⟩ := hrel
    have HF := Lib.hid hf
    have HB := Lib.hid hb
    clear hf hb
    have hq := CB.of HB.out
    by_cases hlt : k < e.tones.length
    · obtain ⟨b, o, rfl, hlb, hc0, hc1'⟩ := h1'.out.rg k hlt
      have hlti : ((k : Int) < (e.tones.length : Int)) := by omega
      go_wp2_with (go_at_call 39; (with_reducible refine (checkRange2_calls (e.tones[k]) _ _ _).mono ?_); rintro e_ w1 ⟨rfl, hb_⟩; have HB_ := Lib.hid (bl_then2 (by (repeat (with_reducible first | exact HB.out | apply bl_alloc2 | apply bl_drew2 | apply bl_drewN2))) hb_); clear HB hb_; (try clear hq); have HB := HB_; clear HB_; have hq := CB.of HB.out)
      · have he : rgErr e.tones[k] 1 100000 ≠ 0 := by simpa using (show (rgErr e.tones[k] 1 100000 != 0) = true by assumption)
        go_ret
        exact ⟨ret_int (earErr_tone hA.out (firstErr_is (hk := hlt) HF.out (by rw [toneErr_rg, if_pos he]) he) he).symm, by (repeat (first | exact bl_then H0W.out HB.out | exact H0W.out | exact HB.out | exact Below.refl _ _ | refine bl_set ?_ (by assumption) _ | refine bl_alloc ?_ _ | refine bl_drew ?_ | refine bl_drewN ?_ _))⟩
      · have he : rgErr e.tones[k] 1 100000 = 0 := by simpa using (show (rgErr e.tones[k] 1 100000 != 0) = false by assumption)
        have hr := rgErr_zero he
        have hw : IntKind.i64.wrap (e.tones[k].mx - e.tones[k].mn) = e.tones[k].mx - e.tones[k].mn := IntWalk.i64_in _ (by omega)
        have HE := Lib.hid he
        clear he
        have hk0 : (0 : Int) ≤ (k : Int) := by omega
        go_quiet (fail)
        go_wp2
        · have hl : 20 < e.tones[k].mx - e.tones[k].mn := by assumption
          go_ret
          exact ⟨ret_int (earErr_tone hA.out (firstErr_is (hk := hlt) HF.out (by rw [toneErr_rg, if_neg (by simp [HE.out]), if_pos hl]) (by decide)) (by decide)).symm, by (repeat (first | exact bl_then H0W.out HB.out | exact H0W.out | exact HB.out | exact Below.refl _ _ | refine bl_set ?_ (by assumption) _ | refine bl_alloc ?_ _ | refine bl_drew ?_ | refine bl_drewN ?_ _))⟩
        · have hl : e.tones[k].mx - e.tones[k].mn ≤ 20 := by assumption
          go_roundw
          case rel => exact ⟨k + 1, hlt, by go_num, by (repeat (with_reducible first | exact HB.out | apply bl_alloc2 | apply bl_drew2 | apply bl_drewN2)), firstErr_next (hk := hlt) HF.out (by rw [toneErr_rg, if_neg (by simp [HE.out]), if_neg (by omega)])⟩
          case measure => simp [intOf]; omega
    · have hf0 := Lib.hid (firstErr_end HF.out (Nat.not_lt.1 hlt))
      go_wp2_with fail
      · go_ret
        exact ⟨ret_int (earErr_many hA.out hf0.out (by assumption)).symm, by (repeat (first | exact bl_then H0W.out HB.out | exact H0W.out | exact HB.out | exact Below.refl _ _ | refine bl_set ?_ (by assumption) _ | refine bl_alloc ?_ _ | refine bl_drew ?_ | refine bl_drewN ?_ _))⟩
      have h6 : (e.reads.length : Int) ≤ 6 := by assumption
      obtain ⟨W1, rfl⟩ : ∃ W1 : World, W1 = wr := ⟨_, rfl⟩
      go_loopw [5] (fun i wr => ∃ k : Nat, k ≤ e.reads.length ∧ i = .int .i64 k ∧ Below W.heap.size W wr ∧ firstErr (fun r => readErr r e.tones.length) e.reads = firstErr (fun r => readErr r e.tones.length) (e.reads.drop k))
        (fun i _ => e.reads.length - (intOf i).toNat)
      case atStart => exact ⟨0, Nat.zero_le _, rfl, HB.out, rfl⟩
      case round =>
        obtain ⟨k, hk, rfl, hb, hf⟩ := hrel
        have HF := Lib.hid hf
        clear HB hq
        have HB := Lib.hid hb
        clear hf hb
        have hq := CB.of HB.out
        by_cases hlt : k < e.reads.length
        · obtain ⟨b, o, rfl, hlb, hc0, hc1', hc2', hc3, hc4, hc5⟩ := h2'.out.rd k hlt
          have hlti : ((k : Int) < (e.reads.length : Int)) := by omega
          have hk0 : (0 : Int) ≤ (k : Int) := by omega
          have hR := And.intro (kg1 0) (And.intro (kg1 1) (kg1 2))
          go_wp2_with fail
          go_region_held3 (fun w' => w'.cell? ⟨g1, 1, none⟩ = some (.slice A1 e.tones.length c1) ∧ w'.cell? ⟨g1, 2, none⟩ = some (.slice (some ⟨b, o, none⟩) e.reads.length c2) ∧ w'.cell? ⟨b, o + k * 6, none⟩ = some (.int .i64 e.reads[k].kind) ∧ w'.cell? ⟨b, o + k * 6 + 1, none⟩ = some (.int .i64 e.reads[k].a) ∧ w'.cell? ⟨b, o + k * 6 + 2, none⟩ = some (.int .i64 e.reads[k].b) ∧
              w'.cell? ⟨b, o + k * 6 + 3, none⟩ = some (.int .i64 e.reads[k].secs) ∧ w'.cell? ⟨b, o + k * 6 + 4, none⟩ = some (.int .i64 e.reads[k].shown.mn) ∧ w'.cell? ⟨b, o + k * 6 + 5, none⟩ = some (.int .i64 e.reads[k].shown.mx))
            (first | exact ⟨(hq.1 _ _ lg1).trans hR.2.1, (hq.1 _ _ lg1).trans hR.2.2, (hq.1 _ _ hlb).trans hc0, (hq.1 _ _ hlb).trans hc1', (hq.1 _ _ hlb).trans hc2', (hq.1 _ _ hlb).trans hc3, (hq.1 _ _ hlb).trans hc4, (hq.1 _ _ hlb).trans hc5⟩ | exact ⟨((CB.of (bl_drew HB.out)).1 _ _ lg1).trans hR.2.1, ((CB.of (bl_drew HB.out)).1 _ _ lg1).trans hR.2.2, ((CB.of (bl_drew HB.out)).1 _ _ hlb).trans hc0, ((CB.of (bl_drew HB.out)).1 _ _ hlb).trans hc1', ((CB.of (bl_drew HB.out)).1 _ _ hlb).trans hc2', ((CB.of (bl_drew HB.out)).1 _ _ hlb).trans hc3, ((CB.of (bl_drew HB.out)).1 _ _ hlb).trans hc4, ((CB.of (bl_drew HB.out)).1 _ _ hlb).trans hc5⟩ | exact ⟨((CB.of (bl_alloc HB.out _)).1 _ _ lg1).trans hR.2.1, ((CB.of (bl_alloc HB.out _)).1 _ _ lg1).trans hR.2.2, ((CB.of (bl_alloc HB.out _)).1 _ _ hlb).trans hc0, ((CB.of (bl_alloc HB.out _)).1 _ _ hlb).trans hc1', ((CB.of (bl_alloc HB.out _)).1 _ _ hlb).trans hc2', ((CB.of (bl_alloc HB.out _)).1 _ _ hlb).trans hc3, ((CB.of (bl_alloc HB.out _)).1 _ _ hlb).trans hc4, ((CB.of (bl_alloc HB.out _)).1 _ _ hlb).trans hc5⟩ | exact ⟨((CB.of (bl_alloc (bl_alloc HB.out _) _)).1 _ _ lg1).trans hR.2.1, ((CB.of (bl_alloc (bl_alloc HB.out _) _)).1 _ _ lg1).trans hR.2.2, ((CB.of (bl_alloc (bl_alloc HB.out _) _)).1 _ _ hlb).trans hc0, ((CB.of (bl_alloc (bl_alloc HB.out _) _)).1 _ _ hlb).trans hc1', ((CB.of (bl_alloc (bl_alloc HB.out _) _)).1 _ _ hlb).trans hc2', ((CB.of (bl_alloc (bl_alloc HB.out _) _)).1 _ _ hlb).trans hc3, ((CB.of (bl_alloc (bl_alloc HB.out _) _)).1 _ _ hlb).trans hc4, ((CB.of (bl_alloc (bl_alloc HB.out _) _)).1 _ _ hlb).trans hc5⟩ | go_keep)
            (first | (go_at_call 40; (with_reducible refine (checkReading2_calls (e.reads[k]) _ _ (by omega)).mono ?_); rintro e_ w1 ⟨rfl, hb_⟩; have HB_ := Lib.hid (bl_then2 (by (repeat (with_reducible first | exact HB.out | apply bl_alloc2 | apply bl_drew2 | apply bl_drewN2))) hb_); clear HB hb_; (try clear hq); have HB := HB_; clear HB_; have hq := CB.of HB.out))
          go_wp2
          · go_ret
            exact ⟨ret_int (earErr_reads hA.out hf0.out h6 (firstErr_is (hk := hlt) HF.out rfl (by simpa using (show (readErr e.reads[k] e.tones.length != 0) = true by assumption)))).symm, by (repeat (first | exact bl_then H0W.out HB.out | exact H0W.out | exact HB.out | exact Below.refl _ _ | refine bl_set ?_ (by assumption) _ | refine bl_alloc ?_ _ | refine bl_drew ?_ | refine bl_drewN ?_ _))⟩
          · go_roundw
            case rel => exact ⟨k + 1, hlt, by go_num, HB.out, firstErr_next (hk := hlt) HF.out (by simpa using (show (readErr e.reads[k] e.tones.length != 0) = false by assumption))⟩
            case measure => simp [intOf]; omega
        · go_wp2_with fail
          go_ret
          exact ⟨ret_int (earErr_reads hA.out hf0.out h6 (firstErr_end HF.out (Nat.not_lt.1 hlt))).symm, by (repeat (first | exact bl_then H0W.out HB.out | exact H0W.out | exact HB.out | exact Below.refl _ _ | refine bl_set ?_ (by assumption) _ | refine bl_alloc ?_ _ | refine bl_drew ?_ | refine bl_drewN ?_ _))⟩

end Go.Proofs.Ytnclljamcfoolaa
namespace Go.Proofs.Ytnclljamcfoolaa
open Go.RowKit
set_option linter.unusedVariables false
set_option linter.unusedSimpArgs false

/-- a count of a meter -/
structure Ct where
  secs : Int
  shown : Rg
deriving DecidableEq
def Ct.rd (r : Ct) : Rd := ⟨1, 0, 0, r.secs, r.shown⟩
def Ct.Ok (r : Ct) : Prop := 1 ≤ r.secs ∧ r.secs ≤ 20 ∧ 0 ≤ r.shown.mn ∧ r.shown.mn ≤ r.shown.mx ∧ r.shown.mx ≤ 25000
@[reducible] def Ct.v (r : Ct) : Value := .agg #[.int .i64 1, .int .i64 0, .int .i64 0, .int .i64 r.secs, .int .i64 r.shown.mn, .int .i64 r.shown.mx]
@[reducible] def Ct.cv (r : Ct) (slack : Int) : Value := .agg #[.int .i64 1, .int .i64 0, .int .i64 0, .int .i64 r.secs, .int .i64 r.shown.mn, .int .i64 r.shown.mx, .int .i64 slack]
def trueAt (slack : Int) (n : Int) (r : Ct) : Bool := decide (100 * (r.shown.mn - 1 - slack) < n * r.secs) && decide (n * r.secs < 100 * (r.shown.mx + 1 + slack))
theorem mul_cnt {n s : Int} (hn : 0 ≤ n ∧ n ≤ 100000) (hs : 1 ≤ s ∧ s ≤ 20) : 0 ≤ n * s ∧ n * s ≤ 2000000 := by
  constructor
  · exact Int.mul_nonneg hn.1 (by omega)
  · have := Int.mul_le_mul hn.2 hs.2 (by omega) (by omega); omega

set_option maxRecDepth 100000 in
set_option maxHeartbeats 2000000 in
theorem is_calls (r : Ct) (slack : Int) (t : T3) (hr : r.Ok) (ht : 0 ≤ t.a ∧ t.a ≤ 100000) (hs : 0 ≤ slack ∧ slack ≤ 3) (w : World) :
    Calls Try.prog 108 #[r.cv slack, t.v] w fun e w' => e = .returned (.bool (trueAt slack t.a r)) ∧ Below w.heap.size w w' := by
  obtain ⟨r1, r2, r3, r4, r5⟩ := hr
  have hm := mul_cnt ht ⟨r1, r2⟩
  obtain ⟨q, hq⟩ : ∃ q, t.a * r.secs = q := ⟨_, rfl⟩
  have hT : trueAt slack t.a r = (decide (100 * (r.shown.mn - 1 - slack) < q) && decide (q < 100 * (r.shown.mx + 1 + slack))) := by unfold trueAt; rw [hq]
  have hw : wrap64 (t.a * r.secs) = q := by rw [hq] at hm ⊢; unfold wrap64; omega
  rw [hq] at hm
  have HT := Lib.hid hT
  clear hT hq
  go_enter Try.func108, Try.ntmps108
  go_upto_region 1 with (fail)
  generalize hW : (w.alloc _).alloc _ = W
  generalize h2_ : w.heap.size + 1 = g2
  generalize h1_ : w.heap.size = g1
  obtain ⟨hB0_, Hg1, Hg2, kg1, kg2, fg1, fg2, lg1, lg2, bg1, bg2, ng12, ng21⟩ := gen2 w _ _ _ _ hW h2_ h1_
  clear hW h1_ h2_
  have H0W := Lib.hid hB0_
  clear hB0_
  have HHg1 := Lib.hid Hg1
  have HHg2 := Lib.hid Hg2
  clear Hg1 Hg2
  go_quiet (fail)
  go_wp2
  all_goals (go_ret; refine ⟨ret_bool ?_, bl_drewN H0W.out _⟩; go_tidy; rw [HT.out]; simp_all; try omega)

theorem readingOf_calls (r : Ct) (slack : Int) (w : World) :
    Calls Try.prog 67 #[r.v, .int .i64 slack] w fun e w' => e = .returned (.iface 149 (r.cv slack)) ∧ Below w.heap.size w w' := by
  go_enter Try.func67, Try.ntmps67
  go_upto_region 1 with (fail)
  generalize hW : w.alloc _ = W
  generalize h1_ : w.heap.size = g1
  obtain ⟨hB0_, Hg1, kg1, fg1, lg1, bg1⟩ := gen1 w _ _ hW h1_
  clear hW h1_
  have H0W := Lib.hid hB0_
  clear hB0_
  have HHg1 := Lib.hid Hg1
  clear Hg1
  go_wp2
  go_ret
  exact ⟨rfl, H0W.out⟩

set_option maxRecDepth 100000 in
set_option maxHeartbeats 2000000 in
theorem true_calls (r : Ct) (slack n : Int) (b o len c : Nat) (hr : r.Ok) (hn : 0 ≤ n ∧ n ≤ 100000) (hs : 0 ≤ slack ∧ slack ≤ 3) (w : World) (hc : w.cell? ⟨b, o, none⟩ = some (.int .i64 n)) (hl : 1 ≤ len) :
    Calls Try.prog 106 #[.int .i64 slack, .slice (some ⟨b, o, none⟩) len c, r.v] w fun e w' => e = .returned (.bool (trueAt slack n r)) ∧ Below w.heap.size w w' := by
  obtain ⟨r1, r2, r3, r4, r5⟩ := hr
  have hm := mul_cnt hn ⟨r1, r2⟩
  obtain ⟨q, hq⟩ : ∃ q, n * r.secs = q := ⟨_, rfl⟩
  have hT : trueAt slack n r = (decide (100 * (r.shown.mn - 1 - slack) < q) && decide (q < 100 * (r.shown.mx + 1 + slack))) := by unfold trueAt; rw [hq]
  have hw : wrap64 (n * r.secs) = q := by rw [hq] at hm ⊢; unfold wrap64; omega
  rw [hq] at hm
  have HT := Lib.hid hT
  have hll : (0 : Int) < (len : Int) := by omega
  have hlb := World.block_lt_of_cell? w _ hc
  clear hT hq
  go_enter Try.func106, Try.ntmps106
  go_upto_region 1 with (fail)
  generalize hW : w.alloc _ = W
  generalize h1_ : w.heap.size = g1
  obtain ⟨hB0_, Hg1, kg1, fg1, lg1, bg1⟩ := gen1 w _ _ hW h1_
  clear hW h1_
  have H0W := Lib.hid hB0_
  clear hB0_
  have HHg1 := Lib.hid Hg1
  clear Hg1
  have hc1 := ((CB.of H0W.out).1 _ _ hlb).trans hc
  clear hc
  go_upto_region 3 with (fail)
  go_quiet (fail)
  go_wp2
  all_goals (go_ret; refine ⟨ret_bool ?_, bl_drewN H0W.out _⟩; go_tidy; rw [HT.out]; simp_all; try omega)

def fitsC (slack n : Int) (l : List Ct) : Bool := l.all (trueAt slack n)
theorem Row.ct {w : World} {A : Option Addr} {l : List Ct} (h : Row Rd.cs 6 w A (l.map Ct.rd)) (k : Nat) (hk : k < l.length) : ∃ b o, A = some ⟨b, o, none⟩ ∧ b < w.heap.size ∧ w.cell? ⟨b, o + k * 6, none⟩ = some (.int .i64 1) ∧ w.cell? ⟨b, o + k * 6 + 1, none⟩ = some (.int .i64 0) ∧ w.cell? ⟨b, o + k * 6 + 2, none⟩ = some (.int .i64 0) ∧
    w.cell? ⟨b, o + k * 6 + 3, none⟩ = some (.int .i64 l[k].secs) ∧ w.cell? ⟨b, o + k * 6 + 4, none⟩ = some (.int .i64 l[k].shown.mn) ∧ w.cell? ⟨b, o + k * 6 + 5, none⟩ = some (.int .i64 l[k].shown.mx) := by
  obtain ⟨b, o, hA, hb, h0, h1, h2, h3, h4, h5⟩ := h.rd k (by simpa using hk)
  rw [List.getElem_map] at h0 h1 h2 h3 h4 h5
  exact ⟨b, o, hA, hb, h0, h1, h2, h3, h4, h5⟩

set_option maxRecDepth 100000 in
set_option maxHeartbeats 2000000 in
theorem fits_calls (l : List Ct) (slack n : Int) (T : Value) (A2 : Option Addr) (c2 : Nat) (b o len c : Nat) (hl : ∀ r ∈ l, r.Ok) (hn : 0 ≤ n ∧ n ≤ 100000) (hs : 0 ≤ slack ∧ slack ≤ 3) (hT : ∃ A m c, T = .slice A m c) (w : World) (h2 : Row Rd.cs 6 w A2 (l.map Ct.rd)) (hc : w.cell? ⟨b, o, none⟩ = some (.int .i64 n)) (hle : 1 ≤ len) (hl6 : l.length ≤ 7) :
    Calls Try.prog 83 #[.agg #[.int .i64 slack, T, .slice A2 l.length c2], .slice (some ⟨b, o, none⟩) len c] w fun e w' => e = .returned (.bool (fitsC slack n l)) ∧ Below w.heap.size w w' := by
  have hlb := World.block_lt_of_cell? w _ hc
  obtain ⟨AT, mT, cT, rfl⟩ := hT
  go_enter Try.func83, Try.ntmps83
  go_upto_region 1 with (fail)
  generalize hW : w.alloc _ = W
  generalize h1_ : w.heap.size = g1
  obtain ⟨hB0_, Hg1, kg1, fg1, lg1, bg1⟩ := gen1 w _ _ hW h1_
  clear hW h1_
  have H0W := Lib.hid hB0_
  clear hB0_
  have HHg1 := Lib.hid Hg1
  clear Hg1
  have HC := Lib.hid (((CB.of H0W.out).1 _ _ hlb).trans hc)
  have HR := Lib.hid (h2.below H0W.out)
  have lbW := Nat.lt_of_lt_of_le hlb H0W.out.size
  clear hc h2
  go_upto_block 0 with (fail)
  go_wp2_with fail
  go_loopw [5] (fun i wr => ∃ k : Nat, k ≤ l.length ∧ i = .int .i64 k ∧ Hid (Below W.heap.size W wr ∧ fitsC slack n (l.take k) = true)) (fun i _ => l.length - (intOf i).toNat)
  case atStart => exact ⟨0, Nat.zero_le _, rfl, Lib.hid ⟨Below.refl _ _, rfl⟩⟩
  case round =>
    obtain ⟨k, hk, rfl, HH⟩ := hrel
    have HB := Lib.hid HH.out.1
    have HF := Lib.hid HH.out.2
    clear HH
    have hq := CB.of HB.out
    by_cases hlt : k < l.length
    · have hlti : ((k : Int) < (l.length : Int)) := by omega
      obtain ⟨b2, o2, rfl, lb2, d0, d1, d2, d3, d4, d5⟩ := (HR.out.below HB.out).ct k hlt
      have kw : ∀ j', wr.cell? ⟨g1, j', none⟩ = #[Value.int .i64 slack, .slice AT mT cT, .slice (some ⟨b2, o2, none⟩) l.length c2][j']? := fun j' => (hq.1 _ _ lg1).trans (kg1 j')
      have hTC := true_calls l[k] slack n b o len c (hl _ (List.getElem_mem hlt)) hn hs
      have hcc := (hq.1 _ _ lbW).trans HC.out
      have lbr := Nat.lt_of_lt_of_le lbW HB.out.size
      obtain ⟨tv, htv⟩ : ∃ tv, trueAt slack n l[k] = tv := ⟨_, rfl⟩
      rw [htv] at hTC
      have hfs : fitsC slack n (l.take (k + 1)) = tv := by
        have h0 := HF.out
        unfold fitsC at h0 ⊢
        rw [List.take_succ_eq_append_getElem hlt, List.all_append, h0]
        simp [htv]
      have HTC := Lib.hid hTC
      have HFS := Lib.hid hfs
      have HCC := Lib.hid hcc
      have HTV := Lib.hid htv
      have HW := Lib.hid HB.out
      clear hTC hfs hcc HF htv HB hq
      go_upto_region 4 with (fail)
      refine wp_region_tail (S := fun w' => (∀ j', w'.cell? ⟨g1, j', none⟩ = #[Value.int .i64 slack, .slice AT mT cT, .slice (some ⟨b2, o2, none⟩) l.length c2][j']?) ∧ w'.cell? ⟨b2, o2 + k * 6, none⟩ = some (.int .i64 1) ∧ w'.cell? ⟨b2, o2 + k * 6 + 1, none⟩ = some (.int .i64 0) ∧ w'.cell? ⟨b2, o2 + k * 6 + 2, none⟩ = some (.int .i64 0) ∧ w'.cell? ⟨b2, o2 + k * 6 + 3, none⟩ = some (.int .i64 l[k].secs) ∧ w'.cell? ⟨b2, o2 + k * 6 + 4, none⟩ = some (.int .i64 l[k].shown.mn) ∧ w'.cell? ⟨b2, o2 + k * 6 + 5, none⟩ = some (.int .i64 l[k].shown.mx)) 8 _ _ (by kernel_rfl) rfl rfl (by decide) (by kernel_rfl) ⟨kw, d0, d1, d2, d3, d4, d5⟩ (fun hHeld => ?_)
      simp only [Act.put, stillOf, List.set_cons_succ, List.set_cons_zero, List.setIfInBounds_toArray, List.getElem_toArray, List.getElem_cons_succ, List.getElem_cons_zero]
      refine wpAnyH_take (i := 0) (v := ?_) rfl (by kernel_rfl) (by kernel_rfl) (by kernel_rfl) (fun _ _ _ h => h) (Or.inl ⟨by rfl, ?_⟩) (by assumption) ?_; rotate_left 1; (focus ((intro w_ hS_; (try dsimp only at hS_); go_simp; first | done | with_reducible rfl))); simp only [Act.put, stillOf, List.set_cons_succ, List.set_cons_zero, List.setIfInBounds_toArray, List.getElem_toArray, List.getElem_cons_succ, List.getElem_cons_zero]
      refine wpAnyH_take (i := 1) (v := ?_) rfl (by kernel_rfl) (by kernel_rfl) (by kernel_rfl) (fun _ _ _ h => h) (Or.inl ⟨by rfl, ?_⟩) (by assumption) ?_; rotate_left 1; (focus ((intro w_ hS_; (try dsimp only at hS_); go_simp; first | done | with_reducible rfl))); simp only [Act.put, stillOf, List.set_cons_succ, List.set_cons_zero, List.setIfInBounds_toArray, List.getElem_toArray, List.getElem_cons_succ, List.getElem_cons_zero]
      refine wpAnyH_take (i := 2) (v := ?_) rfl (by kernel_rfl) (by kernel_rfl) (by kernel_rfl) (fun _ _ _ h => h) (Or.inl ⟨by rfl, ?_⟩) (by assumption) ?_; rotate_left 1; (focus ((intro w_ hS_; (try dsimp only at hS_); go_simp; first | done | with_reducible rfl))); simp only [Act.put, stillOf, List.set_cons_succ, List.set_cons_zero, List.setIfInBounds_toArray, List.getElem_toArray, List.getElem_cons_succ, List.getElem_cons_zero]
      refine wpAnyH_take (i := 3) (v := ?_) rfl (by kernel_rfl) (by kernel_rfl) (by kernel_rfl) (fun _ _ _ h => h) (Or.inl ⟨by rfl, ?_⟩) (by assumption) ?_; rotate_left 1; (focus ((intro w_ hS_; (try dsimp only at hS_); go_simp; first | done | with_reducible rfl))); simp only [Act.put, stillOf, List.set_cons_succ, List.set_cons_zero, List.setIfInBounds_toArray, List.getElem_toArray, List.getElem_cons_succ, List.getElem_cons_zero]
      refine wpAnyH_take (i := 4) (v := ?_) rfl (by kernel_rfl) (by kernel_rfl) (by kernel_rfl) (fun _ _ _ h => h) (Or.inl ⟨by rfl, ?_⟩) (by assumption) ?_; rotate_left 1; (focus ((intro w_ hS_; (try dsimp only at hS_); go_simp; first | done | with_reducible rfl))); simp only [Act.put, stillOf, List.set_cons_succ, List.set_cons_zero, List.setIfInBounds_toArray, List.getElem_toArray, List.getElem_cons_succ, List.getElem_cons_zero]
      refine wpAnyH_take (i := 5) (v := ?_) rfl (by kernel_rfl) (by kernel_rfl) (by kernel_rfl) (fun _ _ _ h => h) (Or.inl ⟨by rfl, ?_⟩) (by assumption) ?_; rotate_left 1; (focus ((intro w_ hS_; (try dsimp only at hS_); go_simp; first | done | with_reducible rfl))); simp only [Act.put, stillOf, List.set_cons_succ, List.set_cons_zero, List.setIfInBounds_toArray, List.getElem_toArray, List.getElem_cons_succ, List.getElem_cons_zero]
      refine wpAnyH_take (i := 6) (v := ?_) rfl (by kernel_rfl) (by kernel_rfl) (by kernel_rfl) (fun _ _ _ h => h) (Or.inl ⟨by rfl, ?_⟩) (by assumption) ?_; rotate_left 1; (focus ((intro w_ hS_; (try dsimp only at hS_); go_simp; first | done | with_reducible rfl))); simp only [Act.put, stillOf, List.set_cons_succ, List.set_cons_zero, List.setIfInBounds_toArray, List.getElem_toArray, List.getElem_cons_succ, List.getElem_cons_zero]
      refine wpAnyH_take (i := 7) (v := ?_) rfl (by kernel_rfl) (by kernel_rfl) (by kernel_rfl) (fun _ _ _ h => h) (Or.inl ⟨by rfl, ?_⟩) (by assumption) ?_; rotate_left 1; (focus ((intro w_ hS_; (try dsimp only at hS_); go_simp; first | done | with_reducible rfl))); simp only [Act.put, stillOf, List.set_cons_succ, List.set_cons_zero, List.setIfInBounds_toArray, List.getElem_toArray, List.getElem_cons_succ, List.getElem_cons_zero]
      refine wpAnyH_done (by kernel_rfl) ?_ _
      unfold Tailed
      dsimp only
      have HB := Lib.hid (Below.refl wr.heap.size wr)
      go_upto_if 22 with (go_at_call 106; refine (HTC.out wr.drew HCC.out hle).mono ?_; rintro e_ w1 ⟨rfl, hb_⟩; have HB_ := Lib.hid (bl_then2 (by (repeat (with_reducible first | exact HB.out | apply bl_alloc2 | apply bl_drew2 | apply bl_drewN2))) hb_); clear HB hb_; (try clear hq); have HB := HB_; clear HB_; have hq := CB.of HB.out)
      cases tv with
      | true =>
        go_wp2_with fail
        refine ⟨⟨k + 1, by omega, by simp, Lib.hid ⟨bl_then HW.out HB.out, HFS.out⟩⟩, ?_⟩
        simp [intOf]; omega
      | false =>
        go_wp2_with fail
        go_ret
        refine ⟨ret_bool ?_, bl_then H0W.out (bl_then HW.out HB.out)⟩
        unfold fitsC
        symm
        rw [List.all_eq_false]
        exact ⟨l[k], List.getElem_mem hlt, by rw [HTV.out]; simp⟩
    · have hlti : ¬ ((k : Int) < (l.length : Int)) := by omega
      obtain rfl : k = l.length := by omega
      have hfl := HF.out
      rw [List.take_length] at hfl
      have HFL := Lib.hid hfl
      clear hfl HF
      have kw : ∀ j', wr.cell? ⟨g1, j', none⟩ = #[Value.int .i64 slack, .slice AT mT cT, .slice A2 l.length c2][j']? := fun j' => (hq.1 _ _ lg1).trans (kg1 j')
      go_wp2_with fail
      go_ret
      exact ⟨ret_bool HFL.out.symm, bl_then H0W.out HB.out⟩

end Go.Proofs.Ytnclljamcfoolaa
