/- Walk of meter.span at the beats of two tongues. -/
import Derived.Test.YtnclljamcfoolaaPeel
import Derived.Deep.DeepCutAuto
namespace Go.Proofs.Ytnclljamcfoolaa
open Go.RowKit
set_option linter.unusedVariables false
set_option linter.unusedSimpArgs false

theorem size26m : (Try.prog.info? 26).map (·.size) = some 2 := by kernel_rfl
set_option maxRecDepth 100000 in
set_option maxHeartbeats 1000000 in
theorem span45 (l : List T3) (hok : ∀ t ∈ l, t.Ok) (g0 cap B1 B2 B3 : Nat) (s : Int) (hs : 1 ≤ s ∧ s ≤ 20) (hl : l.length ≤ 1000000) (hl0 : 0 < l.length) (w : World) (hR : Row T3.cs 3 w (some ⟨g0, 0, none⟩) l) (h1 : w.cell? ⟨B1, 0, none⟩ = some (.int .i64 0)) (h2 : w.cell? ⟨B2, 0, none⟩ = some (.int .i64 1)) (h3 : w.cell? ⟨B3, 0, none⟩ = some (.int .i64 s)) :
    Calls Try.prog 44 #[.slice (some ⟨g0, 0, none⟩) l.length cap, .func (.func 45) #[] #[.pointer (some ⟨B1, 0, none⟩), .pointer (some ⟨B2, 0, none⟩), .pointer (some ⟨B3, 0, none⟩)]] w fun e w' => e = .returned (.agg #[.int .i64 (mnOf (tbOf s) l (tbOf s l[0])), .int .i64 (mxOf (tbOf s) l (tbOf s l[0]))]) ∧ Below w.heap.size w w' := by
  have l1 := World.block_lt_of_cell? w _ h1
  have l2 := World.block_lt_of_cell? w _ h2
  have l3 := World.block_lt_of_cell? w _ h3
  have HR := Lib.hid hR
  clear hR
  obtain ⟨b, o, hA, hlb, c0, c1, c2⟩ := HR.out.t3 0 hl0
  obtain ⟨rfl, rfl⟩ : g0 = b ∧ 0 = o := by simpa using hA
  clear hA
  have ht0 := hok _ (List.getElem_mem hl0)
  simp only [Nat.zero_mul, Nat.zero_add] at c0 c1 c2
  go_enter Try.func44, Try.ntmps44
  go_upto_region 1 with (fail)
  generalize hW : w.alloc _ = W
  generalize h1_ : w.heap.size = g1
  obtain ⟨hB0_, Hg1, kg1, fg1, lg1, bg1⟩ := gen1 w _ _ hW h1_
  clear hW h1_
  have H0W := Lib.hid hB0_
  clear hB0_
  have HHg1 := Lib.hid Hg1
  clear Hg1
  have HB := Lib.hid (Below.refl W.heap.size W)
  have hq0 := CB.of H0W.out
  have e1 := (hq0.1 _ 0 l1).trans h1
  have e2 := (hq0.1 _ 0 l2).trans h2
  have e3 := (hq0.1 _ 0 l3).trans h3
  have d0 := (hq0.1 _ 0 hlb).trans c0
  have d1 := (hq0.1 _ 1 hlb).trans c1
  have d2 := (hq0.1 _ 2 hlb).trans c2
  have m1 := World.block_lt_of_cell? W _ e1
  have m2 := World.block_lt_of_cell? W _ e2
  have m3 := World.block_lt_of_cell? W _ e3
  have mg := World.block_lt_of_cell? W _ d0
  clear hq0 c0 c1 c2
  go_upto_region 1 with (fail)
  go_cut [5] (fun s5 wx => ∃ g5 : Nat, s5 = .pointer (some ⟨g5, 0, none⟩) ∧ Below W.heap.size W wx ∧ W.heap.size ≤ g5 ∧ g5 < wx.heap.size ∧ wx.cell? ⟨g5, 0, none⟩ = some (.int .i64 (tbOf s l[0])) ∧ wx.cell? ⟨g5, 1, none⟩ = some (.int .i64 (tbOf s l[0])) ∧ wx.frozen? ⟨g5, 0, none⟩ = false ∧ wx.frozen? ⟨g5, 1, none⟩ = false)
  case first =>
    go_region_held3 (fun w' => w'.cell? ⟨g0, 0, none⟩ = some (.int .i64 l[0].a) ∧ w'.cell? ⟨g0, 1, none⟩ = some (.int .i64 l[0].b) ∧ w'.cell? ⟨g0, 2, none⟩ = some (.int .i64 l[0].c))
      (first | exact ⟨(hq.1 _ _ mg).trans d0, (hq.1 _ _ mg).trans d1, (hq.1 _ _ mg).trans d2⟩ | exact ⟨((CB.of (bl_drew HB.out)).1 _ _ mg).trans d0, ((CB.of (bl_drew HB.out)).1 _ _ mg).trans d1, ((CB.of (bl_drew HB.out)).1 _ _ mg).trans d2⟩ | exact ⟨((CB.of (bl_alloc HB.out _)).1 _ _ mg).trans d0, ((CB.of (bl_alloc HB.out _)).1 _ _ mg).trans d1, ((CB.of (bl_alloc HB.out _)).1 _ _ mg).trans d2⟩ | exact ⟨((CB.of (bl_alloc (bl_drew HB.out) _)).1 _ _ mg).trans d0, ((CB.of (bl_alloc (bl_drew HB.out) _)).1 _ _ mg).trans d1, ((CB.of (bl_alloc (bl_drew HB.out) _)).1 _ _ mg).trans d2⟩ | exact ⟨((CB.of (bl_set (bl_set HB.out (by assumption) _) (by assumption) _)).1 _ _ mg).trans d0, ((CB.of (bl_set (bl_set HB.out (by assumption) _) (by assumption) _)).1 _ _ mg).trans d1, ((CB.of (bl_set (bl_set HB.out (by assumption) _) (by assumption) _)).1 _ _ mg).trans d2⟩ | go_keep)
      (first
      | (go_at_call 45; refine (beats45 l[0] ht0 B1 B2 B3 s hs _ (((CB.of (by (repeat (with_reducible first | exact HB.out | apply bl_alloc2 | apply bl_drew2 | apply bl_drewN2)))).1 _ 0 m1).trans e1) (((CB.of (by (repeat (with_reducible first | exact HB.out | apply bl_alloc2 | apply bl_drew2 | apply bl_drewN2)))).1 _ 0 m2).trans e2) (((CB.of (by (repeat (with_reducible first | exact HB.out | apply bl_alloc2 | apply bl_drew2 | apply bl_drewN2)))).1 _ 0 m3).trans e3)).mono ?_; rintro e_ w1 ⟨rfl, hb_⟩; have hqq := CB.of hb_; have hsz := HB.out.size; have HB_ := Lib.hid (bl_then2 (by (repeat (with_reducible first | exact HB.out | apply bl_alloc2 | apply bl_drew2 | apply bl_drewN2))) hb_); clear HB hb_; (try clear hq); have HB := HB_; clear HB_; have hq := CB.of HB.out))
    all_goals (go_wp2_with fail; go_meet; refine ⟨_, rfl, (by first | exact bl_alloc HB.out _ | exact bl_set (bl_set HB.out (by assumption) _) (by assumption) _), (by first | assumption | exact HB.out.size), ?_, ?_, ?_, ?_, ?_⟩ <;> simp [go_sem, tbOf, *] <;> (refine World.cell?_setCell_same' _ _ _ ?_; simp [go_sem, *]))
  case rest =>
    obtain ⟨g5, rfl, hb, b5, l5, k0, k1, f0, f1⟩ := hcut
    have HB := Lib.hid hb
    clear hb
    have hq := CB.of HB.out
    go_upto_block 0 with (fail)
    go_wp2_with fail
    go_loopw [21] (fun i wr => ∃ k : Nat, k ≤ l.length ∧ i = .int .i64 k ∧ Below W.heap.size W wr ∧ g5 < wr.heap.size ∧ wr.cell? ⟨g5, 0, none⟩ = some (.int .i64 (mnOf (tbOf s) (l.take k) (tbOf s l[0]))) ∧ wr.cell? ⟨g5, 1, none⟩ = some (.int .i64 (mxOf (tbOf s) (l.take k) (tbOf s l[0]))) ∧ wr.frozen? ⟨g5, 0, none⟩ = false ∧ wr.frozen? ⟨g5, 1, none⟩ = false)
      (fun i _ => l.length - (intOf i).toNat)
    case atStart => exact ⟨0, Nat.zero_le _, rfl, HB.out, l5, k0, k1, f0, f1⟩
    case round =>
      obtain ⟨k, hk, rfl, hb, l5, k0, k1, f0, f1⟩ := hrel
      clear HB hq
      by_cases hlt : k < l.length
      · have hlti : ((k : Int) < (l.length : Int)) := by omega
        have HBr := Lib.hid hb
        have HRr := Lib.hid ((HR.out.below H0W.out).below HBr.out)
        obtain ⟨b, o, hA, hlb', c0, c1, c2⟩ := HRr.out.t3 k hlt
        obtain ⟨rfl, rfl⟩ : g0 = b ∧ 0 = o := by simpa using hA
        clear hA
        have htk := hok _ (List.getElem_mem hlt)
        simp only [Nat.zero_add] at c0 c1 c2
        go_upto_region 5 with (fail)
        generalize hW : wr.alloc _ = V
        generalize h1_ : wr.heap.size = x1
        obtain ⟨hB0_, Hx1, kx1, fx1, lx1, bx1⟩ := gen1 wr _ _ hW h1_
        clear hW h1_
        have H0V := Lib.hid hB0_
        clear hB0_
        have HHx1 := Lib.hid Hx1
        clear Hx1
        have HB := Lib.hid (Below.refl V.heap.size V)
        have hqV := CB.of H0V.out
        have hqr := CB.of HBr.out
        have E1 := (hqV.1 _ 0 (Nat.lt_of_lt_of_le m1 HBr.out.size)).trans ((hqr.1 _ 0 m1).trans e1)
        have E2 := (hqV.1 _ 0 (Nat.lt_of_lt_of_le m2 HBr.out.size)).trans ((hqr.1 _ 0 m2).trans e2)
        have E3 := (hqV.1 _ 0 (Nat.lt_of_lt_of_le m3 HBr.out.size)).trans ((hqr.1 _ 0 m3).trans e3)
        have G0 := (hqV.1 _ 0 l5).trans k0
        have G1 := (hqV.1 _ 1 l5).trans k1
        have F0 := (hqV.2.1 _ 0 l5).trans f0
        have F1 := (hqV.2.1 _ 1 l5).trans f1
        have M1 := World.block_lt_of_cell? V _ E1
        have M2 := World.block_lt_of_cell? V _ E2
        have M3 := World.block_lt_of_cell? V _ E3
        have M5 := World.block_lt_of_cell? V _ G0
        clear hqV hqr k0 k1 f0 f1 c0 c1 c2
        have hq := CB.of HB.out
        have hmn := Lib.hid (show mnOf (tbOf s) (l.take (k + 1)) (tbOf s l[0]) = min (mnOf (tbOf s) (l.take k) (tbOf s l[0])) (tbOf s l[k]) by
          unfold mnOf; rw [List.take_succ_eq_append_getElem hlt, List.foldl_append]; rfl)
        have hmx := Lib.hid (show mxOf (tbOf s) (l.take (k + 1)) (tbOf s l[0]) = max (mxOf (tbOf s) (l.take k) (tbOf s l[0])) (tbOf s l[k]) by
          unfold mxOf; rw [List.take_succ_eq_append_getElem hlt, List.foldl_append]; rfl)
        have hB := Lib.hid (beats45 l[k] htk B1 B2 B3 s hs)
        change Hid (∀ w : World, _ → _ → _ → Calls _ _ _ _ fun e w' => e = .returned (.int .i64 (tbOf s l[k])) ∧ _) at hB
        generalize mnOf (tbOf s) (l.take k) (tbOf s l[0]) = X at *
        generalize mxOf (tbOf s) (l.take k) (tbOf s l[0]) = Y at *
        generalize tbOf s l[k] = Z at *
        refine wp_region_peel (S := fun w' => (∀ j, w'.cell? ⟨x1, j, none⟩ = #[Value.int IntKind.i64 l[k].a, Value.int IntKind.i64 l[k].b, Value.int IntKind.i64 l[k].c][j]?) ∧ w'.cell? ⟨g5, 0, none⟩ = some (.int .i64 X) ∧ w'.cell? ⟨g5, 1, none⟩ = some (.int .i64 Y) ∧ Below V.heap.size V w') 13 _ _ (by kernel_rfl) rfl rfl rfl (by kernel_rfl) (by kernel_rfl) ⟨kx1, G0, G1, bl_drew (Below.refl _ _)⟩ (fun hHeld => ?_)
        simp only [Act.put, stillOf, List.set_cons_succ, List.set_cons_zero, List.setIfInBounds_toArray, List.getElem_toArray, List.getElem_cons_succ, List.getElem_cons_zero]
        refine wpAnyH_take (i := 0) (v := ?_) rfl (by kernel_rfl) (by kernel_rfl) (by kernel_rfl) (fun _ _ _ h => h) (Or.inl ⟨by rfl, ?_⟩) (by assumption) ?_; rotate_left 1; (focus ((intro w_ hS_; (try dsimp only at hS_); go_simp; first | done | with_reducible rfl))); simp only [Act.put, stillOf, List.set_cons_succ, List.set_cons_zero, List.setIfInBounds_toArray, List.getElem_toArray, List.getElem_cons_succ, List.getElem_cons_zero]
        refine wpAnyH_take (i := 1) (v := ?_) rfl (by kernel_rfl) (by kernel_rfl) (by kernel_rfl) (fun _ _ _ h => h) (Or.inl ⟨by rfl, ?_⟩) (by assumption) ?_; rotate_left 1; (focus ((intro w_ hS_; (try dsimp only at hS_); go_simp; first | done | with_reducible rfl))); simp only [Act.put, stillOf, List.set_cons_succ, List.set_cons_zero, List.setIfInBounds_toArray, List.getElem_toArray, List.getElem_cons_succ, List.getElem_cons_zero]
        refine wpAnyH_take (i := 2) (v := ?_) rfl (by kernel_rfl) (by kernel_rfl) (by kernel_rfl) (fun _ _ _ h => h) (Or.inl ⟨by rfl, ?_⟩) (by assumption) ?_; rotate_left 1; (focus ((intro w_ hS_; (try dsimp only at hS_); go_simp; first | done | with_reducible rfl))); simp only [Act.put, stillOf, List.set_cons_succ, List.set_cons_zero, List.setIfInBounds_toArray, List.getElem_toArray, List.getElem_cons_succ, List.getElem_cons_zero]
        refine wpAnyH_take (i := 3) (v := ?_) rfl (by kernel_rfl) (by kernel_rfl) (by kernel_rfl) (fun _ _ _ h => h) (Or.inl ⟨by rfl, ?_⟩) (by assumption) ?_; rotate_left 1; (focus ((intro w_ hS_; (try dsimp only at hS_); go_simp; first | done | with_reducible rfl))); simp only [Act.put, stillOf, List.set_cons_succ, List.set_cons_zero, List.setIfInBounds_toArray, List.getElem_toArray, List.getElem_cons_succ, List.getElem_cons_zero]
        refine wpAnyH_take (i := 6) (v := ?_) rfl (by kernel_rfl) (by kernel_rfl) (by kernel_rfl) (fun _ _ _ h => h) (Or.inl ⟨by rfl, ?_⟩) (by assumption) ?_; rotate_left 1; (focus ((intro w_ hS_; (try dsimp only at hS_); go_simp; first | done | with_reducible rfl))); simp only [Act.put, stillOf, List.set_cons_succ, List.set_cons_zero, List.setIfInBounds_toArray, List.getElem_toArray, List.getElem_cons_succ, List.getElem_cons_zero]
        refine wpAnyH_take (i := 7) (v := ?_) rfl (by kernel_rfl) (by kernel_rfl) (by kernel_rfl) (fun _ _ _ h => h) (Or.inl ⟨by rfl, ?_⟩) (by assumption) ?_; rotate_left 1; (focus ((intro w_ hS_; (try dsimp only at hS_); go_simp; first | done | with_reducible rfl))); simp only [Act.put, stillOf, List.set_cons_succ, List.set_cons_zero, List.setIfInBounds_toArray, List.getElem_toArray, List.getElem_cons_succ, List.getElem_cons_zero]
        refine wpAnyH_take (i := 8) (v := ?_) rfl (by kernel_rfl) (by kernel_rfl) (by kernel_rfl) (fun _ _ _ h => h) (Or.inl ⟨by rfl, ?_⟩) (by assumption) ?_; rotate_left 1; (focus ((intro w_ hS_; (try dsimp only at hS_); go_simp; first | done | with_reducible rfl))); simp only [Act.put, stillOf, List.set_cons_succ, List.set_cons_zero, List.setIfInBounds_toArray, List.getElem_toArray, List.getElem_cons_succ, List.getElem_cons_zero]
        refine wpAnyH_take (i := 9) (v := ?_) rfl (by kernel_rfl) (by kernel_rfl) (by kernel_rfl) (fun _ _ _ h => h) (Or.inl ⟨by rfl, ?_⟩) (by assumption) ?_; rotate_left 1; (focus ((intro w_ hS_; (try dsimp only at hS_); go_simp; first | done | with_reducible rfl))); simp only [Act.put, stillOf, List.set_cons_succ, List.set_cons_zero, List.setIfInBounds_toArray, List.getElem_toArray, List.getElem_cons_succ, List.getElem_cons_zero]
        refine wpAnyH_ready (rs := [4]) (by kernel_rfl) (by simp) (AllReadyH.cons rfl (fun K hK => ?_) AllReadyH.nil)
        go_simp
        (go_at_call 45; refine (hB.out _ (((CB.of (by (repeat (with_reducible first | exact HB.out | apply bl_alloc2 | apply bl_drew2 | apply bl_drewN2)))).1 _ 0 M1).trans E1) (((CB.of (by (repeat (with_reducible first | exact HB.out | apply bl_alloc2 | apply bl_drew2 | apply bl_drewN2)))).1 _ 0 M2).trans E2) (((CB.of (by (repeat (with_reducible first | exact HB.out | apply bl_alloc2 | apply bl_drew2 | apply bl_drewN2)))).1 _ 0 M3).trans E3)).mono ?_; rintro e_ w1 ⟨rfl, hb_⟩; have HB_ := Lib.hid (bl_then2 (by (repeat (with_reducible first | exact HB.out | apply bl_alloc2 | apply bl_drew2 | apply bl_drewN2))) hb_); clear HB hb_; (try clear hq); have HB := HB_; clear HB_; have hq := CB.of HB.out)
        refine hK.out _ _ ⟨fun j => (hq.1 _ _ lx1).trans (kx1 j), (hq.1 _ _ M5).trans G0, (hq.1 _ _ M5).trans G1, HB.out⟩ (fun hHeld => ?_)
        clear hK K
        refine wpAnyH_take (i := 5) (v := ?_) rfl (by kernel_rfl) (by kernel_rfl) (by kernel_rfl) (fun _ _ _ h => h) (Or.inl ⟨by rfl, ?_⟩) (by assumption) ?_; rotate_left 1; (focus ((intro w_ hS_; (try dsimp only at hS_); go_simp; first | done | with_reducible rfl))); simp only [Act.put, stillOf, List.set_cons_succ, List.set_cons_zero, List.setIfInBounds_toArray, List.getElem_toArray, List.getElem_cons_succ, List.getElem_cons_zero]
        refine wpAnyH_ready (rs := [10]) (by kernel_rfl) (by simp) (AllReadyH.cons rfl (fun K hK => ?_) AllReadyH.nil)
        go_simp
        (go_at_call 45; refine (hB.out _ (((CB.of (by (repeat (with_reducible first | exact HB.out | apply bl_alloc2 | apply bl_drew2 | apply bl_drewN2)))).1 _ 0 M1).trans E1) (((CB.of (by (repeat (with_reducible first | exact HB.out | apply bl_alloc2 | apply bl_drew2 | apply bl_drewN2)))).1 _ 0 M2).trans E2) (((CB.of (by (repeat (with_reducible first | exact HB.out | apply bl_alloc2 | apply bl_drew2 | apply bl_drewN2)))).1 _ 0 M3).trans E3)).mono ?_; rintro e_ w1 ⟨rfl, hb_⟩; have HB_ := Lib.hid (bl_then2 (by (repeat (with_reducible first | exact HB.out | apply bl_alloc2 | apply bl_drew2 | apply bl_drewN2))) hb_); clear HB hb_; (try clear hq); have HB := HB_; clear HB_; have hq := CB.of HB.out)
        refine hK.out _ _ ⟨fun j => (hq.1 _ _ lx1).trans (kx1 j), (hq.1 _ _ M5).trans G0, (hq.1 _ _ M5).trans G1, HB.out⟩ (fun hHeld => ?_)
        clear hK K
        refine wpAnyH_take (i := 11) (v := ?_) rfl (by kernel_rfl) (by kernel_rfl) (by kernel_rfl) (fun _ _ _ h => h) (Or.inl ⟨by rfl, ?_⟩) (by assumption) ?_; rotate_left 1; (focus ((intro w_ hS_; (try dsimp only at hS_); go_simp; first | done | with_reducible rfl))); simp only [Act.put, stillOf, List.set_cons_succ, List.set_cons_zero, List.setIfInBounds_toArray, List.getElem_toArray, List.getElem_cons_succ, List.getElem_cons_zero]
        refine wpAnyH_take (i := 12) (v := ?_) rfl (by kernel_rfl) (by kernel_rfl) (by kernel_rfl) (fun _ _ _ h => h) (Or.inl ⟨by rfl, ?_⟩) (by assumption) ?_; rotate_left 1; (focus ((intro w_ hS_; (try dsimp only at hS_); go_simp; first | done | with_reducible rfl))); simp only [Act.put, stillOf, List.set_cons_succ, List.set_cons_zero, List.setIfInBounds_toArray, List.getElem_toArray, List.getElem_cons_succ, List.getElem_cons_zero]
        refine wpAnyH_take (i := 13) (v := ?_) rfl (by kernel_rfl) (by kernel_rfl) (by kernel_rfl) (fun _ _ _ h => h) (Or.inl ⟨by rfl, ?_⟩) (by assumption) ?_; rotate_left 1; (focus ((intro w_ hS_; (try dsimp only at hS_); go_simp; first | done | with_reducible rfl))); simp only [Act.put, stillOf, List.set_cons_succ, List.set_cons_zero, List.setIfInBounds_toArray, List.getElem_toArray, List.getElem_cons_succ, List.getElem_cons_zero]
        refine wpAnyH_done (by kernel_rfl) ?_ _
        have Z0 := (hq.1 _ _ M5).trans G0
        have Z1 := (hq.1 _ _ M5).trans G1
        have Y0 := (hq.2.1 _ 0 M5).trans F0
        have Y1 := (hq.2.1 _ 1 M5).trans F1
        unfold Peeled
        dsimp only
        go_simp
        go_wp2_with fail
        have e0 : (if Z < X then Z else X) = min X Z := by split <;> omega
        have e9 : (if Y < Z then Z else Y) = max Y Z := by split <;> omega
        rw [e0, e9]
        have hbb := bl_then HBr.out (bl_then (H0V.out) (HB.out))
        have l6 : g5 < w1.heap.size := Nat.lt_of_lt_of_le M5 HB.out.size
        refine ⟨⟨k + 1, by omega, by simp, bl_set (bl_set hbb b5 _) b5 _, by simpa using l6, ?_, ?_, ?_, ?_⟩, ?_⟩
        · rw [hmn.out]; simp [go_sem, Z0, Z1]
        · rw [hmx.out]; simp [go_sem, Z0, Z1]
        · simp [go_sem, Y0, Y1]
        · simp [go_sem, Y0, Y1]
        · simp [intOf]; omega
      · have hkl : k = l.length := by omega
        subst hkl
        rw [List.take_length] at k0 k1
        go_wp2_with ((with_reducible refine st_gate 26 rfl ?_); refine wpList_store_row rfl 26 _ _ rfl g1 _ rfl rfl 26 _ ((hb.block _ lg1).trans HHg1.out) size26m (by simp) (by simp [Value.oneCell']) ?_)
        exact ret_row rfl g1 26 _ _ rfl (setRow_heap ((hb.block _ lg1).trans HHg1.out)) Try.underlying26 rfl size26m rfl ⟨rfl, bl_setRow (bl_then H0W.out hb) bg1 _⟩

end Go.Proofs.Ytnclljamcfoolaa
