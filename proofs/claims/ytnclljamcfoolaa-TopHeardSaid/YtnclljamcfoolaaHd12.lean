/- Walk of ref02.All for an ear of one tone with counts. -/
import Derived.Test.YtnclljamcfoolaaHd11
namespace Go.Proofs.Ytnclljamcfoolaa
open Go.RowKit Go.Shelf Go.Maps
set_option linter.unusedVariables false
set_option linter.unusedSimpArgs false

def i64c (x : Int) : List Value := [.int .i64 x]
def slc (x : Value) : List Value := [x]
/-- a list of lists of numbers, seen from outside: so many slices -/
def OwnL (w : World) (base n : Nat) (v : Value) : Prop := ∃ l : List Value, l.length = n ∧ (∀ x ∈ l, x.oneCell' = true) ∧ w.ownsRow base 62 1 v n (flat slc l)

set_option maxRecDepth 100000 in
set_option maxHeartbeats 4000000 in
theorem all_leaf (slack : Int) (hsl : 0 ≤ slack ∧ slack ≤ 3) (ls : List Ct) (hls : ∀ r ∈ ls, r.Ok) (hl7 : ls.length ≤ 7) (t : Int) (ht : 0 ≤ t ∧ t ≤ 100000) (b o c1 : Nat) (A2 : Option Addr) (c2 gb cb : Nat) (w : World) (h2 : Row Rd.cs 6 w A2 (ls.map Ct.rd)) (hc : w.cell? ⟨gb, 0, none⟩ = some (.int .i64 t)) :
    Calls Try.prog 54 #[.agg #[.int .i64 slack, .slice (some ⟨b, o, none⟩) 1 c1, .slice A2 ls.length c2], .slice (some ⟨gb, 0, none⟩) 1 cb] w fun ed w' => ∃ v, ed = .returned v ∧ Hid (OwnL w' w.heap.size (if fitsC slack t ls then 1 else 0) v) ∧ Below w.heap.size w w' := by
  have HF := Lib.hid (fun w h2 hc => fits_calls ls slack t (.slice (some ⟨b, o, none⟩) 1 c1) A2 c2 gb 0 1 cb hls ht hsl ⟨_, _, _, rfl⟩ w h2 hc (by omega) hl7)
  have hlb := World.block_lt_of_cell? w _ hc
  generalize fitsC slack t ls = tv at *
  go_enter Try.func54, Try.ntmps54
  go_upto_region 1 with (fail)
  generalize hW : w.alloc _ = W
  generalize h1_ : w.heap.size = g1
  obtain ⟨hB0_, Hg1, kg1, fg1, lg1, bg1⟩ := gen1 w _ _ hW h1_
  clear hW h1_
  have H0W := Lib.hid hB0_
  clear hB0_
  have HHg1 := Lib.hid Hg1
  clear Hg1
  have HB := Lib.hid (Below.refl W.heap.size W)
  have HR := Lib.hid (h2.below H0W.out)
  have HC := Lib.hid (((CB.of H0W.out).1 _ _ hlb).trans hc)
  have lW := Nat.lt_of_lt_of_le hlb H0W.out.size
  clear h2 hc
  cases tv with
  | true =>
    go_wp2_with (first
      | ((with_reducible refine ld_gate 41 rfl ?_); refine wpList_load_row rfl 41 _ rfl g1 rfl 41 _ (0, 0) _ ((HB.out.block _ lg1).trans HHg1.out) Try.underlying41 rfl size41 ?_)
      | (go_at_call 83; refine (HF.out _ (HR.out.below HB.out) (((CB.of HB.out).1 _ _ lW).trans HC.out)).mono ?_; rintro e_ w1 ⟨rfl, hb_⟩; have HB_ := Lib.hid (bl_then2 (by (repeat (with_reducible first | exact HB.out | apply bl_alloc2 | apply bl_drew2 | apply bl_drewN2))) hb_); clear HB hb_; (try clear hq); have HB := HB_; clear HB_; have hq := CB.of HB.out))
    go_ret
    refine ⟨_, rfl, Lib.hid ⟨[.slice (some ⟨gb, 0, none⟩) 1 cb], rfl, by simp [Value.oneCell'], own_new (cs := #[.slice (some ⟨gb, 0, none⟩) 1 cb]) (heap_new _ _) (Nat.le_trans H0W.out.size HB.out.size) rfl (by unfold maxLen; omega)⟩, by (repeat (first | exact bl_then H0W.out HB.out | exact H0W.out | exact HB.out | exact Below.refl _ _ | refine bl_set ?_ (by assumption) _ | refine bl_alloc ?_ _ | refine bl_drew ?_ | refine bl_drewN ?_ _))⟩
  | false =>
    go_wp2_with (first
      | ((with_reducible refine ld_gate 41 rfl ?_); refine wpList_load_row rfl 41 _ rfl g1 rfl 41 _ (0, 0) _ ((HB.out.block _ lg1).trans HHg1.out) Try.underlying41 rfl size41 ?_)
      | (go_at_call 83; refine (HF.out _ (HR.out.below HB.out) (((CB.of HB.out).1 _ _ lW).trans HC.out)).mono ?_; rintro e_ w1 ⟨rfl, hb_⟩; have HB_ := Lib.hid (bl_then2 (by (repeat (with_reducible first | exact HB.out | apply bl_alloc2 | apply bl_drew2 | apply bl_drewN2))) hb_); clear HB hb_; (try clear hq); have HB := HB_; clear HB_; have hq := CB.of HB.out))
    go_ret
    exact ⟨_, rfl, Lib.hid ⟨[], rfl, by simp, own_nil _ _ _ _⟩, by (repeat (first | exact bl_then H0W.out HB.out | exact H0W.out | exact HB.out | exact Below.refl _ _ | refine bl_set ?_ (by assumption) _ | refine bl_alloc ?_ _ | refine bl_drew ?_ | refine bl_drewN ?_ _))⟩

theorem info3 : (Try.prog.info? 3).map (fun i => (i.zero, i.size, i.bytes)) = some (some (.int .i64 0), 1, 8) := by kernel_rfl
theorem info62 : (Try.prog.info? 62).map (fun i => (i.zero, i.size, i.bytes)) = some (some (.slice none 0 0), 1, 24) := by kernel_rfl
set_option maxRecDepth 100000 in
set_option maxHeartbeats 4000000 in
theorem all_calls (slack : Int) (hsl : 0 ≤ slack ∧ slack ≤ 3) (x : Rg) (hbx : 1 ≤ x.mn ∧ x.mn ≤ 100000 ∧ 1 ≤ x.mx ∧ x.mx ≤ 100000) (hx20 : x.mx - x.mn ≤ 20) (ls : List Ct) (hls : ∀ r ∈ ls, r.Ok) (hl7 : ls.length ≤ 7) (b o c1 : Nat) (A2 : Option Addr) (c2 : Nat) (w : World) (h1 : Row Rg.cs 2 w (some ⟨b, o, none⟩) [x]) (h2 : Row Rd.cs 6 w A2 (ls.map Ct.rd)) :
    Calls Try.prog 54 #[.agg #[.int .i64 slack, .slice (some ⟨b, o, none⟩) 1 c1, .slice A2 ls.length c2], .slice none 0 0] w fun ed w' => ∃ v, ed = .returned v ∧ Hid (OwnL w' w.heap.size (keptC slack x ls).length v) ∧ Below w.heap.size w w' := by
  have HL := Lib.hid (fun t ht gb cb w h2 hc => all_leaf slack hsl ls hls hl7 t ht b o c1 A2 c2 gb cb w h2 hc)
  obtain ⟨i0, hi, hz0, hz1, hz2⟩ := info_parts info3
  obtain ⟨i1, hj, hy0, hy1, hy2⟩ := info_parts info62
  obtain ⟨b', o', hA', hlb, r0, r1⟩ := h1.rg 0 (by simp)
  obtain ⟨rfl, rfl⟩ : b = b' ∧ o = o' := by simpa using hA'
  simp only [Nat.zero_mul, Nat.add_zero, List.getElem_cons_zero] at r0 r1
  clear hA' h1
  go_enter Try.func54, Try.ntmps54
  go_upto_region 1 with (fail)
  generalize hW : w.alloc _ = W
  generalize h1_ : w.heap.size = g1
  obtain ⟨hB0_, Hg1, kg1, fg1, lg1, bg1⟩ := gen1 w _ _ hW h1_
  clear hW h1_
  have H0W := Lib.hid hB0_
  clear hB0_
  have HHg1 := Lib.hid Hg1
  clear Hg1
  have HR := Lib.hid (h2.below H0W.out)
  have r0' := ((CB.of H0W.out).1 _ _ hlb).trans r0
  have r1' := ((CB.of H0W.out).1 _ _ hlb).trans r1
  clear h2 r0 r1
  go_upto_region 7 with (fail)
  generalize hW : W.alloc _ = X
  generalize h1_ : W.heap.size = x1
  obtain ⟨hB0_, Hx1, kx1, fx1, lx1, bx1⟩ := gen1 W _ _ hW h1_
  clear hW h1_
  have H0X := Lib.hid hB0_
  clear hB0_
  have HHx1 := Lib.hid Hx1
  clear Hx1
  have k1 := fun j => ((CB.of H0X.out).1 _ j lg1).trans (kg1 j)
  have HRX := Lib.hid (HR.out.below H0X.out)
  have l1 := Nat.lt_of_lt_of_le lg1 H0X.out.size
  have HWX := Lib.hid (bl_then H0W.out H0X.out)
  clear kg1 fg1 r0' r1' HR fx1
  go_wp2_with fail
  go_loopw [5, 7] (fun v i wr => ∃ j : Nat, j ≤ (x.mx - x.mn + 1).toNat ∧ i = .int .i64 (x.mn + (j : Int)) ∧ Hid (OwnL wr X.heap.size (keptN slack x ls j).length v) ∧ Below X.heap.size X wr) (fun _ i _ => (x.mx + 1 - intOf i).toNat)
  case atStart => exact ⟨0, Nat.zero_le _, by simp, Lib.hid ⟨[], rfl, by simp, own_nil _ _ _ _⟩, Below.refl _ _⟩
  case round =>
    obtain ⟨j, hj2, rfl, HOv, hb⟩ := hrel
    have HBX := Lib.hid hb
    have hqX := CB.of hb
    have y1 := fun j => (hqX.1 _ j lx1).trans (kx1 j)
    have z1 := fun j => (hqX.1 _ j l1).trans (k1 j)
    have m1 := Nat.lt_of_lt_of_le l1 hb.size
    clear hqX hb
    by_cases hjl : x.mn + (j : Int) ≤ x.mx
    · have hdl : decide (x.mn + (j : Int) ≤ x.mx) = true := decide_eq_true hjl
      have HKS := Lib.hid (show (keptN slack x ls (j + 1)).length = (keptN slack x ls j).length + if fitsC slack (x.mn + (j : Int)) ls then 1 else 0 by rw [keptN_succ]; split <;> simp)
      have hN : (keptN slack x ls j).length ≤ 1000 := by
        have := List.length_filter_le (fun n => fitsC slack n ls) (uptoN x j)
        simp [uptoN, keptN] at this ⊢
        omega
      have hT : 0 ≤ x.mn + (j : Int) ∧ x.mn + (j : Int) ≤ 100000 := by omega
      obtain ⟨lv, hlv, hov, hwv⟩ := HOv.out
      have HVo := Lib.hid hwv
      clear hwv HOv
      have hjl1 : x.mn + (j : Int) + 1 ≤ x.mx + 1 := by omega
      generalize (keptN slack x ls j).length = N at *
      generalize hTT : x.mn + (j : Int) = T at *
      go_upto_region 10 with (fail)
      have HRr := Lib.hid (HRX.out.below HBX.out)
      have HTT := Lib.hid hTT
      clear hTT
      refine wp_region_peel (S := fun w' => (∀ j, w'.cell? ⟨g1, j, none⟩ = #[Value.int .i64 slack, .slice (some ⟨b, o, none⟩) 1 c1, .slice A2 ls.length c2][j]?) ∧ Below X.heap.size X w') 10 _ _ (by kernel_rfl) rfl rfl rfl (by kernel_rfl) (by kernel_rfl) ⟨z1, bl_drew HBX.out⟩ (fun hHeld => ?_)
      simp only [Act.put, stillOf, List.set_cons_succ, List.set_cons_zero, List.setIfInBounds_toArray, List.getElem_toArray, List.getElem_cons_succ, List.getElem_cons_zero]
      refine wpAnyH_take (i := 0) (v := ?_) rfl (by kernel_rfl) (by kernel_rfl) (by kernel_rfl) (fun _ _ _ h => h) (Or.inl ⟨by rfl, ?_⟩) (by assumption) ?_; rotate_left 1; (focus ((intro w_ hS_; (try dsimp only at hS_); go_simp; first | done | with_reducible rfl))); simp only [Act.put, stillOf, List.set_cons_succ, List.set_cons_zero, List.setIfInBounds_toArray, List.getElem_toArray, List.getElem_cons_succ, List.getElem_cons_zero]
      refine wpAnyH_take (i := 1) (v := ?_) rfl (by kernel_rfl) (by kernel_rfl) (by kernel_rfl) (fun _ _ _ h => h) (Or.inl ⟨by rfl, ?_⟩) (by assumption) ?_; rotate_left 1; (focus ((intro w_ hS_; (try dsimp only at hS_); go_simp; first | done | with_reducible rfl))); simp only [Act.put, stillOf, List.set_cons_succ, List.set_cons_zero, List.setIfInBounds_toArray, List.getElem_toArray, List.getElem_cons_succ, List.getElem_cons_zero]
      refine wpAnyH_take (i := 3) (v := ?_) rfl (by kernel_rfl) (by kernel_rfl) (by kernel_rfl) (fun _ _ _ h => h) (Or.inl ⟨by rfl, ?_⟩) (by assumption) ?_; rotate_left 1; (focus ((intro w_ hS_; (try dsimp only at hS_); go_simp; first | done | with_reducible rfl))); simp only [Act.put, stillOf, List.set_cons_succ, List.set_cons_zero, List.setIfInBounds_toArray, List.getElem_toArray, List.getElem_cons_succ, List.getElem_cons_zero]
      refine wpAnyH_take (i := 5) (v := ?_) rfl (by kernel_rfl) (by kernel_rfl) (by kernel_rfl) (fun _ _ _ h => h) (Or.inl ⟨by rfl, ?_⟩) (by assumption) ?_; rotate_left 1; (focus ((intro w_ hS_; (try dsimp only at hS_); go_simp; first | done | with_reducible rfl))); simp only [Act.put, stillOf, List.set_cons_succ, List.set_cons_zero, List.setIfInBounds_toArray, List.getElem_toArray, List.getElem_cons_succ, List.getElem_cons_zero]
      have z1' : ∀ j, wr.drew.cell? ⟨g1, j, none⟩ = #[Value.int .i64 slack, .slice (some ⟨b, o, none⟩) 1 c1, .slice A2 ls.length c2][j]? := z1
      have hbx' : Below X.heap.size X wr.drew := bl_drew HBX.out
      have hvo' : wr.drew.ownsRow X.heap.size 62 1 u5 N (flat slc lv) := HVo.out.drew
      have m1' : g1 < wr.drew.heap.size := m1
      clear z1 m1 HVo HBX hHeld HRr
      generalize wr.drew = V at *
      have z1 := z1'
      have m1 := m1'
      have HBX := Lib.hid hbx'
      have HVo := Lib.hid hvo'
      have HRr := Lib.hid (HRX.out.below hbx')
      clear z1' m1' hbx' hvo'
      have HB := Lib.hid (Below.refl V.heap.size V)
      refine wpAnyH_ready (rs := [2, 6]) (by kernel_rfl) (by simp) (AllReadyH.cons rfl (fun K hK => ?_) (AllReadyH.cons rfl (fun K hK => ?_) AllReadyH.nil))
      · go_simp
        have hb_ : Below (V).heap.size (V) ((V).alloc (.cells #[] 3)) := bl_alloc (Below.refl _ _) _
        have HN2 := Lib.hid (show (World.heap ((V).alloc (.cells #[] 3)))[(World.heap (V)).size]? = some (.cells #[] 3 (0, 0)) from heap_new _ _)
        generalize hW2 : (V).alloc _ = W2 at hb_ HN2 ⊢
        generalize hgn : (World.heap (V)).size = p2 at HN2 ⊢
        have HZ2 := Lib.hid (show V.heap.size ≤ p2 from by rw [← hgn]; exact HB.out.size)
        clear hW2 hgn
        have hbx_ := hb_; have HB_ := Lib.hid (bl_then2 (by (repeat (with_reducible first | exact HB.out | apply bl_alloc2 | apply bl_drew2 | apply bl_drewN2))) hb_); clear HB hb_; (try clear hq); have HB := HB_; clear HB_; have hq := CB.of HB.out
        refine hK.out _ _ ⟨fun j => (hq.1 _ j m1).trans (z1 j), bl_then HBX.out HB.out⟩ (fun hHeld => ?_)
        clear hK K
        refine wpAnyH_ready (rs := [4, 6]) (by kernel_rfl) (by simp) (AllReadyH.cons rfl (fun K hK => ?_) (AllReadyH.cons rfl (fun K hK => ?_) AllReadyH.nil))
        · refine step_append_row (en := i64c) rfl _ _ 62 rfl V.heap.size 3 i0 _ 1 8 rfl hi hz0 hz1 hz2 rfl (by decide) (.slice (some ⟨p2, 0, none⟩) 0 0) 0 [] rfl (own_empty HN2.out HZ2.out) (fun _ => rfl) none [] (by intro x hx; cases hx) 0 rfl (.inl rfl) (by unfold maxLen; simp) (by simp) HB.out.size ?_
          intro v4 w4 hown4 hgrow4 hat4
          have HB4 := Lib.hid (bl_grown HB.out HB.out.size hgrow4 (fun k hk => by cases hk; exact HZ2.out))
          have HO4 := Lib.hid (show w4.ownsRow V.heap.size 3 1 v4 0 [] by simpa [flat] using hown4)
          have HGR := Lib.hid hgrow4
          simp only [Act.put, stillOf, List.set_cons_succ, List.set_cons_zero, List.setIfInBounds_toArray, List.getElem_toArray, List.getElem_cons_succ, List.getElem_cons_zero]
          have hq_ := CB.of HB4.out
          refine hK.out _ _ ⟨fun j => (hq_.1 _ j m1).trans (z1 j), bl_then HBX.out HB4.out⟩ (fun hHeld => ?_)
          clear hK K HB hq hq_ hown4 hgrow4 hat4
          have HB := HB4
          clear HB4
          have hq := CB.of HB.out
          refine wpAnyH_ready (rs := [6]) (by kernel_rfl) (by simp) (AllReadyH.cons rfl (fun K hK => ?_) AllReadyH.nil)
          go_simp
          have hb_ : Below (w4).heap.size (w4) ((w4).alloc (.cells #[.int .i64 T] 3)) := bl_alloc (Below.refl _ _) _
          have HN6 := Lib.hid (show (World.heap ((w4).alloc (.cells #[.int .i64 T] 3)))[(World.heap (w4)).size]? = some (.cells #[.int .i64 T] 3 (0, 0)) from heap_new _ _)
          generalize hW2 : (w4).alloc _ = W6 at hb_ HN6 ⊢
          generalize hgn : (World.heap (w4)).size = p6 at HN6 ⊢
          clear hW2 hgn
          have hbx_ := hb_; have HB_ := Lib.hid (bl_then2 (by (repeat (with_reducible first | exact HB.out | apply bl_alloc2 | apply bl_drew2 | apply bl_drewN2))) hb_); clear HB hb_; (try clear hq); have HB := HB_; clear HB_; have hq := CB.of HB.out
          refine hK.out _ _ ⟨fun j => (hq.1 _ j m1).trans (z1 j), bl_then HBX.out HB.out⟩ (fun hHeld => ?_)
          clear hK K
          have HO4 := Lib.hid (own_below HO4.out hbx_)
          refine wpAnyH_ready (rs := [7]) (by kernel_rfl) (by simp) (AllReadyH.cons rfl (fun K hK => ?_) AllReadyH.nil)
          refine step_append_lies _ rfl _ _ 62 rfl V.heap.size 3 i0 _ 1 8 rfl hi hz0 hz1 hz2 rfl (by decide) v4 0 [] rfl HO4.out ⟨p6, 0, none⟩ 1 1 [.int .i64 T] rfl rfl (World.news_of_block (t := 3) (fr := (0, 0)) HN6.out) (by simp [Value.oneCell']) (by omega) (by unfold maxLen; omega) (by omega) HB.out.size _ rfl ?_
          intro g cap w5 hown5 hgrow5 hat5 hgl5
          have HB5 := Lib.hid (bl_grown HB.out HB.out.size hgrow5 (fun k hk => (HO4.out.lt k hk).1))
          have HC5 := Lib.hid (show w5.cell? ⟨g, 0, none⟩ = some (.int .i64 T) by simpa [Addr.add] using hown5.cells rfl 0 (.int .i64 T) rfl)
          simp only [Act.put, stillOf, List.set_cons_succ, List.set_cons_zero, List.setIfInBounds_toArray, List.getElem_toArray, List.getElem_cons_succ, List.getElem_cons_zero]
          have hq_ := CB.of HB5.out
          refine hK.out _ _ ⟨fun j => (hq_.1 _ j m1).trans (z1 j), bl_then HBX.out HB5.out⟩ (fun hHeld => ?_)
          clear hK K HB hq hq_ hown5 hgrow5 hat5 hgl5 HO4 HN6 HN2 HZ2
          have HB := HB5
          clear HB5
          have hq := CB.of HB.out
          refine wpAnyH_ready (rs := [8]) (by kernel_rfl) (by simp) (AllReadyH.cons rfl (fun K hK => ?_) AllReadyH.nil)
          go_simp
          (go_at_call 54; refine (HL.out T hT g cap _ (HRr.out.below HB.out) HC5.out).mono ?_; rintro e_ w8 ⟨v8, rfl, HO8, hb_⟩; have hx_ := HB.out.size; have hbx_ := hb_; have HB_ := Lib.hid (bl_then2 (by (repeat (with_reducible first | exact HB.out | apply bl_alloc2 | apply bl_drew2 | apply bl_drewN2))) hb_); clear HB hb_; (try clear hq); have HB := HB_; clear HB_; have hq := CB.of HB.out)
          refine hK.out _ _ ⟨fun j => (hq.1 _ j m1).trans (z1 j), bl_then HBX.out HB.out⟩ (fun hHeld => ?_)
          clear hK K HC5 hbx_
          obtain ⟨l8, hl8, ho8, hw8⟩ := HO8.out
          have hle8 : l8.length ≤ 1 := (by rw [hl8]; split <;> omega)
          rw [← hl8] at hw8
          obtain ⟨A8, c8, rfl, hrow8, -⟩ := row_of_any (enc := slc) (fun _ => rfl) (l := l8) rfl hw8
          have HOv := Lib.hid (own_below HVo.out HB.out)
          refine wpAnyH_ready (rs := [9]) (by kernel_rfl) (by simp) (AllReadyH.cons rfl (fun K hK => ?_) AllReadyH.nil)
          refine step_append_row (en := slc) rfl _ _ 100 rfl X.heap.size 62 i1 _ 1 24 rfl hj hy0 hy1 hy2 rfl (by decide) u5 N (flat slc lv) rfl HOv.out (fun _ => rfl) A8 l8 (by intro x hx u hu; simp [slc] at hu; subst hu; exact ho8 _ hx) c8 rfl hrow8 (by unfold maxLen; omega) (by omega) (Nat.le_trans HBX.out.size HB.out.size) ?_
          intro v9 w9 hown9 hgrow9 hat9
          have HB9 := Lib.hid (bl_grown (bl_then HBX.out HB.out) (Nat.le_trans HBX.out.size HB.out.size) hgrow9 (fun k hk => (HOv.out.lt k hk).1))
          have HO9 := Lib.hid (show OwnL w9 X.heap.size (N + l8.length) v9 from ⟨lv ++ l8, by simp [hlv], fun x hx => by rcases List.mem_append.1 hx with h | h; exact hov x h; exact ho8 x h, by rw [show flat slc (lv ++ l8) = flat slc lv ++ flat slc l8 by simp [flat]]; exact hown9⟩)
          have HL8 := Lib.hid hl8
          simp only [Act.put, stillOf, List.set_cons_succ, List.set_cons_zero, List.setIfInBounds_toArray, List.getElem_toArray, List.getElem_cons_succ, List.getElem_cons_zero]
          refine hK.out _ _ ⟨fun j => ((CB.of HB9.out).1 _ j l1).trans (k1 j), HB9.out⟩ (fun hHeld => ?_)
          clear hK K hown9 hgrow9 hat9 HB hq hl8 ho8 hw8 hrow8 hle8
          refine wpAnyH_take (i := 10) (v := ?_) rfl (by kernel_rfl) (by kernel_rfl) (by kernel_rfl) (fun _ _ _ h => h) (Or.inl ⟨by rfl, ?_⟩) (by assumption) ?_; rotate_left 1; (focus ((intro w_ hS_; (try dsimp only at hS_); go_simp; first | done | with_reducible rfl))); simp only [Act.put, stillOf, List.set_cons_succ, List.set_cons_zero, List.setIfInBounds_toArray, List.getElem_toArray, List.getElem_cons_succ, List.getElem_cons_zero]
          refine wpAnyH_done (by kernel_rfl) ?_ _
          unfold Peeled
          dsimp only
          go_simp
          go_wp2_with fail
          have hT9 := HTT.out
          refine ⟨⟨j + 1, by omega, by congr 1; omega, Lib.hid (by rw [HKS.out]; have h := HO9.out; rw [HL8.out] at h; exact h), HB9.out⟩, ?_⟩
          simp [intOf]; omega
        · go_simp
          have hb_ : Below (W2).heap.size (W2) ((W2).alloc (.cells #[.int .i64 T] 3)) := bl_alloc (Below.refl _ _) _
          have HN6 := Lib.hid (show (World.heap ((W2).alloc (.cells #[.int .i64 T] 3)))[(World.heap (W2)).size]? = some (.cells #[.int .i64 T] 3 (0, 0)) from heap_new _ _)
          generalize hW2 : (W2).alloc _ = W6 at hb_ HN6 ⊢
          generalize hgn : (World.heap (W2)).size = p6 at HN6 ⊢
          clear hW2 hgn
          have hbx_ := hb_; have HB_ := Lib.hid (bl_then2 (by (repeat (with_reducible first | exact HB.out | apply bl_alloc2 | apply bl_drew2 | apply bl_drewN2))) hb_); clear HB hb_; (try clear hq); have HB := HB_; clear HB_; have hq := CB.of HB.out
          refine hK.out _ _ ⟨fun j => (hq.1 _ j m1).trans (z1 j), bl_then HBX.out HB.out⟩ (fun hHeld => ?_)
          clear hK K
          have HN2 := Lib.hid ((hbx_.block _ (Array.getElem?_eq_some_iff.1 HN2.out).1).trans HN2.out)
          refine wpAnyH_ready (rs := [4]) (by kernel_rfl) (by simp) (AllReadyH.cons rfl (fun K hK => ?_) AllReadyH.nil)
          refine step_append_row (en := i64c) rfl _ _ 62 rfl V.heap.size 3 i0 _ 1 8 rfl hi hz0 hz1 hz2 rfl (by decide) (.slice (some ⟨p2, 0, none⟩) 0 0) 0 [] rfl (own_empty HN2.out HZ2.out) (fun _ => rfl) none [] (by intro x hx; cases hx) 0 rfl (.inl rfl) (by unfold maxLen; simp) (by simp) HB.out.size ?_
          intro v4 w4 hown4 hgrow4 hat4
          have HB4 := Lib.hid (bl_grown HB.out HB.out.size hgrow4 (fun k hk => by cases hk; exact HZ2.out))
          have HO4 := Lib.hid (show w4.ownsRow V.heap.size 3 1 v4 0 [] by simpa [flat] using hown4)
          have HGR := Lib.hid hgrow4
          simp only [Act.put, stillOf, List.set_cons_succ, List.set_cons_zero, List.setIfInBounds_toArray, List.getElem_toArray, List.getElem_cons_succ, List.getElem_cons_zero]
          have hq_ := CB.of HB4.out
          refine hK.out _ _ ⟨fun j => (hq_.1 _ j m1).trans (z1 j), bl_then HBX.out HB4.out⟩ (fun hHeld => ?_)
          clear hK K HB hq hq_ hown4 hgrow4 hat4
          have HB := HB4
          clear HB4
          have hq := CB.of HB.out
          have HN6 := Lib.hid ((HGR.out.block p6 (Array.getElem?_eq_some_iff.1 HN6.out).1 (by intro e; have e2 : p6 = p2 := (by simpa [Value.ownBlock] using e); rw [e2] at HN6; have e3 := HN2.out.symm.trans HN6.out; simp at e3)).trans HN6.out)
          refine wpAnyH_ready (rs := [7]) (by kernel_rfl) (by simp) (AllReadyH.cons rfl (fun K hK => ?_) AllReadyH.nil)
          refine step_append_lies _ rfl _ _ 62 rfl V.heap.size 3 i0 _ 1 8 rfl hi hz0 hz1 hz2 rfl (by decide) v4 0 [] rfl HO4.out ⟨p6, 0, none⟩ 1 1 [.int .i64 T] rfl rfl (World.news_of_block (t := 3) (fr := (0, 0)) HN6.out) (by simp [Value.oneCell']) (by omega) (by unfold maxLen; omega) (by omega) HB.out.size _ rfl ?_
          intro g cap w5 hown5 hgrow5 hat5 hgl5
          have HB5 := Lib.hid (bl_grown HB.out HB.out.size hgrow5 (fun k hk => (HO4.out.lt k hk).1))
          have HC5 := Lib.hid (show w5.cell? ⟨g, 0, none⟩ = some (.int .i64 T) by simpa [Addr.add] using hown5.cells rfl 0 (.int .i64 T) rfl)
          simp only [Act.put, stillOf, List.set_cons_succ, List.set_cons_zero, List.setIfInBounds_toArray, List.getElem_toArray, List.getElem_cons_succ, List.getElem_cons_zero]
          have hq_ := CB.of HB5.out
          refine hK.out _ _ ⟨fun j => (hq_.1 _ j m1).trans (z1 j), bl_then HBX.out HB5.out⟩ (fun hHeld => ?_)
          clear hK K HB hq hq_ hown5 hgrow5 hat5 hgl5 HO4 HN6 HN2 HZ2
          have HB := HB5
          clear HB5
          have hq := CB.of HB.out
          refine wpAnyH_ready (rs := [8]) (by kernel_rfl) (by simp) (AllReadyH.cons rfl (fun K hK => ?_) AllReadyH.nil)
          go_simp
          (go_at_call 54; refine (HL.out T hT g cap _ (HRr.out.below HB.out) HC5.out).mono ?_; rintro e_ w8 ⟨v8, rfl, HO8, hb_⟩; have hx_ := HB.out.size; have hbx_ := hb_; have HB_ := Lib.hid (bl_then2 (by (repeat (with_reducible first | exact HB.out | apply bl_alloc2 | apply bl_drew2 | apply bl_drewN2))) hb_); clear HB hb_; (try clear hq); have HB := HB_; clear HB_; have hq := CB.of HB.out)
          refine hK.out _ _ ⟨fun j => (hq.1 _ j m1).trans (z1 j), bl_then HBX.out HB.out⟩ (fun hHeld => ?_)
          clear hK K HC5 hbx_
          obtain ⟨l8, hl8, ho8, hw8⟩ := HO8.out
          have hle8 : l8.length ≤ 1 := (by rw [hl8]; split <;> omega)
          rw [← hl8] at hw8
          obtain ⟨A8, c8, rfl, hrow8, -⟩ := row_of_any (enc := slc) (fun _ => rfl) (l := l8) rfl hw8
          have HOv := Lib.hid (own_below HVo.out HB.out)
          refine wpAnyH_ready (rs := [9]) (by kernel_rfl) (by simp) (AllReadyH.cons rfl (fun K hK => ?_) AllReadyH.nil)
          refine step_append_row (en := slc) rfl _ _ 100 rfl X.heap.size 62 i1 _ 1 24 rfl hj hy0 hy1 hy2 rfl (by decide) u5 N (flat slc lv) rfl HOv.out (fun _ => rfl) A8 l8 (by intro x hx u hu; simp [slc] at hu; subst hu; exact ho8 _ hx) c8 rfl hrow8 (by unfold maxLen; omega) (by omega) (Nat.le_trans HBX.out.size HB.out.size) ?_
          intro v9 w9 hown9 hgrow9 hat9
          have HB9 := Lib.hid (bl_grown (bl_then HBX.out HB.out) (Nat.le_trans HBX.out.size HB.out.size) hgrow9 (fun k hk => (HOv.out.lt k hk).1))
          have HO9 := Lib.hid (show OwnL w9 X.heap.size (N + l8.length) v9 from ⟨lv ++ l8, by simp [hlv], fun x hx => by rcases List.mem_append.1 hx with h | h; exact hov x h; exact ho8 x h, by rw [show flat slc (lv ++ l8) = flat slc lv ++ flat slc l8 by simp [flat]]; exact hown9⟩)
          have HL8 := Lib.hid hl8
          simp only [Act.put, stillOf, List.set_cons_succ, List.set_cons_zero, List.setIfInBounds_toArray, List.getElem_toArray, List.getElem_cons_succ, List.getElem_cons_zero]
          refine hK.out _ _ ⟨fun j => ((CB.of HB9.out).1 _ j l1).trans (k1 j), HB9.out⟩ (fun hHeld => ?_)
          clear hK K hown9 hgrow9 hat9 HB hq hl8 ho8 hw8 hrow8 hle8
          refine wpAnyH_take (i := 10) (v := ?_) rfl (by kernel_rfl) (by kernel_rfl) (by kernel_rfl) (fun _ _ _ h => h) (Or.inl ⟨by rfl, ?_⟩) (by assumption) ?_; rotate_left 1; (focus ((intro w_ hS_; (try dsimp only at hS_); go_simp; first | done | with_reducible rfl))); simp only [Act.put, stillOf, List.set_cons_succ, List.set_cons_zero, List.setIfInBounds_toArray, List.getElem_toArray, List.getElem_cons_succ, List.getElem_cons_zero]
          refine wpAnyH_done (by kernel_rfl) ?_ _
          unfold Peeled
          dsimp only
          go_simp
          go_wp2_with fail
          have hT9 := HTT.out
          refine ⟨⟨j + 1, by omega, by congr 1; omega, Lib.hid (by rw [HKS.out]; have h := HO9.out; rw [HL8.out] at h; exact h), HB9.out⟩, ?_⟩
          simp [intOf]; omega
      · go_simp
        have hb_ : Below (V).heap.size (V) ((V).alloc (.cells #[.int .i64 T] 3)) := bl_alloc (Below.refl _ _) _
        have HN6 := Lib.hid (show (World.heap ((V).alloc (.cells #[.int .i64 T] 3)))[(World.heap (V)).size]? = some (.cells #[.int .i64 T] 3 (0, 0)) from heap_new _ _)
        generalize hW2 : (V).alloc _ = W6 at hb_ HN6 ⊢
        generalize hgn : (World.heap (V)).size = p6 at HN6 ⊢
        clear hW2 hgn
        have hbx_ := hb_; have HB_ := Lib.hid (bl_then2 (by (repeat (with_reducible first | exact HB.out | apply bl_alloc2 | apply bl_drew2 | apply bl_drewN2))) hb_); clear HB hb_; (try clear hq); have HB := HB_; clear HB_; have hq := CB.of HB.out
        refine hK.out _ _ ⟨fun j => (hq.1 _ j m1).trans (z1 j), bl_then HBX.out HB.out⟩ (fun hHeld => ?_)
        clear hK K
        refine wpAnyH_ready (rs := [2]) (by kernel_rfl) (by simp) (AllReadyH.cons rfl (fun K hK => ?_) AllReadyH.nil)
        go_simp
        have hb_ : Below (W6).heap.size (W6) ((W6).alloc (.cells #[] 3)) := bl_alloc (Below.refl _ _) _
        have HN2 := Lib.hid (show (World.heap ((W6).alloc (.cells #[] 3)))[(World.heap (W6)).size]? = some (.cells #[] 3 (0, 0)) from heap_new _ _)
        generalize hW2 : (W6).alloc _ = W2 at hb_ HN2 ⊢
        generalize hgn : (World.heap (W6)).size = p2 at HN2 ⊢
        have HZ2 := Lib.hid (show V.heap.size ≤ p2 from by rw [← hgn]; exact HB.out.size)
        clear hW2 hgn
        have hbx_ := hb_; have HB_ := Lib.hid (bl_then2 (by (repeat (with_reducible first | exact HB.out | apply bl_alloc2 | apply bl_drew2 | apply bl_drewN2))) hb_); clear HB hb_; (try clear hq); have HB := HB_; clear HB_; have hq := CB.of HB.out
        refine hK.out _ _ ⟨fun j => (hq.1 _ j m1).trans (z1 j), bl_then HBX.out HB.out⟩ (fun hHeld => ?_)
        clear hK K
        have HN6 := Lib.hid ((hbx_.block _ (Array.getElem?_eq_some_iff.1 HN6.out).1).trans HN6.out)
        refine wpAnyH_ready (rs := [4]) (by kernel_rfl) (by simp) (AllReadyH.cons rfl (fun K hK => ?_) AllReadyH.nil)
        refine step_append_row (en := i64c) rfl _ _ 62 rfl V.heap.size 3 i0 _ 1 8 rfl hi hz0 hz1 hz2 rfl (by decide) (.slice (some ⟨p2, 0, none⟩) 0 0) 0 [] rfl (own_empty HN2.out HZ2.out) (fun _ => rfl) none [] (by intro x hx; cases hx) 0 rfl (.inl rfl) (by unfold maxLen; simp) (by simp) HB.out.size ?_
        intro v4 w4 hown4 hgrow4 hat4
        have HB4 := Lib.hid (bl_grown HB.out HB.out.size hgrow4 (fun k hk => by cases hk; exact HZ2.out))
        have HO4 := Lib.hid (show w4.ownsRow V.heap.size 3 1 v4 0 [] by simpa [flat] using hown4)
        have HGR := Lib.hid hgrow4
        simp only [Act.put, stillOf, List.set_cons_succ, List.set_cons_zero, List.setIfInBounds_toArray, List.getElem_toArray, List.getElem_cons_succ, List.getElem_cons_zero]
        have hq_ := CB.of HB4.out
        refine hK.out _ _ ⟨fun j => (hq_.1 _ j m1).trans (z1 j), bl_then HBX.out HB4.out⟩ (fun hHeld => ?_)
        clear hK K HB hq hq_ hown4 hgrow4 hat4
        have HB := HB4
        clear HB4
        have hq := CB.of HB.out
        have HN6 := Lib.hid ((HGR.out.block p6 (Array.getElem?_eq_some_iff.1 HN6.out).1 (by intro e; have e2 : p6 = p2 := (by simpa [Value.ownBlock] using e); rw [e2] at HN6; have e3 := HN2.out.symm.trans HN6.out; simp at e3)).trans HN6.out)
        refine wpAnyH_ready (rs := [7]) (by kernel_rfl) (by simp) (AllReadyH.cons rfl (fun K hK => ?_) AllReadyH.nil)
        refine step_append_lies _ rfl _ _ 62 rfl V.heap.size 3 i0 _ 1 8 rfl hi hz0 hz1 hz2 rfl (by decide) v4 0 [] rfl HO4.out ⟨p6, 0, none⟩ 1 1 [.int .i64 T] rfl rfl (World.news_of_block (t := 3) (fr := (0, 0)) HN6.out) (by simp [Value.oneCell']) (by omega) (by unfold maxLen; omega) (by omega) HB.out.size _ rfl ?_
        intro g cap w5 hown5 hgrow5 hat5 hgl5
        have HB5 := Lib.hid (bl_grown HB.out HB.out.size hgrow5 (fun k hk => (HO4.out.lt k hk).1))
        have HC5 := Lib.hid (show w5.cell? ⟨g, 0, none⟩ = some (.int .i64 T) by simpa [Addr.add] using hown5.cells rfl 0 (.int .i64 T) rfl)
        simp only [Act.put, stillOf, List.set_cons_succ, List.set_cons_zero, List.setIfInBounds_toArray, List.getElem_toArray, List.getElem_cons_succ, List.getElem_cons_zero]
        have hq_ := CB.of HB5.out
        refine hK.out _ _ ⟨fun j => (hq_.1 _ j m1).trans (z1 j), bl_then HBX.out HB5.out⟩ (fun hHeld => ?_)
        clear hK K HB hq hq_ hown5 hgrow5 hat5 hgl5 HO4 HN6 HN2 HZ2
        have HB := HB5
        clear HB5
        have hq := CB.of HB.out
        refine wpAnyH_ready (rs := [8]) (by kernel_rfl) (by simp) (AllReadyH.cons rfl (fun K hK => ?_) AllReadyH.nil)
        go_simp
        (go_at_call 54; refine (HL.out T hT g cap _ (HRr.out.below HB.out) HC5.out).mono ?_; rintro e_ w8 ⟨v8, rfl, HO8, hb_⟩; have hx_ := HB.out.size; have hbx_ := hb_; have HB_ := Lib.hid (bl_then2 (by (repeat (with_reducible first | exact HB.out | apply bl_alloc2 | apply bl_drew2 | apply bl_drewN2))) hb_); clear HB hb_; (try clear hq); have HB := HB_; clear HB_; have hq := CB.of HB.out)
        refine hK.out _ _ ⟨fun j => (hq.1 _ j m1).trans (z1 j), bl_then HBX.out HB.out⟩ (fun hHeld => ?_)
        clear hK K HC5 hbx_
        obtain ⟨l8, hl8, ho8, hw8⟩ := HO8.out
        have hle8 : l8.length ≤ 1 := (by rw [hl8]; split <;> omega)
        rw [← hl8] at hw8
        obtain ⟨A8, c8, rfl, hrow8, -⟩ := row_of_any (enc := slc) (fun _ => rfl) (l := l8) rfl hw8
        have HOv := Lib.hid (own_below HVo.out HB.out)
        refine wpAnyH_ready (rs := [9]) (by kernel_rfl) (by simp) (AllReadyH.cons rfl (fun K hK => ?_) AllReadyH.nil)
        refine step_append_row (en := slc) rfl _ _ 100 rfl X.heap.size 62 i1 _ 1 24 rfl hj hy0 hy1 hy2 rfl (by decide) u5 N (flat slc lv) rfl HOv.out (fun _ => rfl) A8 l8 (by intro x hx u hu; simp [slc] at hu; subst hu; exact ho8 _ hx) c8 rfl hrow8 (by unfold maxLen; omega) (by omega) (Nat.le_trans HBX.out.size HB.out.size) ?_
        intro v9 w9 hown9 hgrow9 hat9
        have HB9 := Lib.hid (bl_grown (bl_then HBX.out HB.out) (Nat.le_trans HBX.out.size HB.out.size) hgrow9 (fun k hk => (HOv.out.lt k hk).1))
        have HO9 := Lib.hid (show OwnL w9 X.heap.size (N + l8.length) v9 from ⟨lv ++ l8, by simp [hlv], fun x hx => by rcases List.mem_append.1 hx with h | h; exact hov x h; exact ho8 x h, by rw [show flat slc (lv ++ l8) = flat slc lv ++ flat slc l8 by simp [flat]]; exact hown9⟩)
        have HL8 := Lib.hid hl8
        simp only [Act.put, stillOf, List.set_cons_succ, List.set_cons_zero, List.setIfInBounds_toArray, List.getElem_toArray, List.getElem_cons_succ, List.getElem_cons_zero]
        refine hK.out _ _ ⟨fun j => ((CB.of HB9.out).1 _ j l1).trans (k1 j), HB9.out⟩ (fun hHeld => ?_)
        clear hK K hown9 hgrow9 hat9 HB hq hl8 ho8 hw8 hrow8 hle8
        refine wpAnyH_take (i := 10) (v := ?_) rfl (by kernel_rfl) (by kernel_rfl) (by kernel_rfl) (fun _ _ _ h => h) (Or.inl ⟨by rfl, ?_⟩) (by assumption) ?_; rotate_left 1; (focus ((intro w_ hS_; (try dsimp only at hS_); go_simp; first | done | with_reducible rfl))); simp only [Act.put, stillOf, List.set_cons_succ, List.set_cons_zero, List.setIfInBounds_toArray, List.getElem_toArray, List.getElem_cons_succ, List.getElem_cons_zero]
        refine wpAnyH_done (by kernel_rfl) ?_ _
        unfold Peeled
        dsimp only
        go_simp
        go_wp2_with fail
        have hT9 := HTT.out
        refine ⟨⟨j + 1, by omega, by congr 1; omega, Lib.hid (by rw [HKS.out]; have h := HO9.out; rw [HL8.out] at h; exact h), HB9.out⟩, ?_⟩
        simp [intOf]; omega
    · have hdl : decide (x.mn + (j : Int) ≤ x.mx) = false := decide_eq_false hjl
      go_wp2
      go_ret
      obtain rfl : j = (x.mx - x.mn + 1).toNat := by omega
      exact ⟨u5, rfl, Lib.hid (by obtain ⟨l, h1, h2, h3⟩ := HOv.out; exact ⟨l, h1, h2, own_weaken h3 HWX.out.size⟩), bl_then HWX.out HBX.out⟩
end Go.Proofs.Ytnclljamcfoolaa
