/- Walk of reed.game.moved: what is known after a stroke. The memo of a game: a map from what is known to whether it stops. -/
import Derived.Test.YtnclljamcfoolaaHd7
import Derived.Laws.ResultCell
import Derived.Laws.StructEq
namespace Go.Proofs.Ytnclljamcfoolaa
open Go.RowKit
set_option linter.unusedVariables false
set_option linter.unusedSimpArgs false

theorem size111 : (Try.prog.info? 111).map (·.size) = some 5 := by kernel_rfl
theorem size106 : (Try.prog.info? 106).map (·.size) = some 21 := by kernel_rfl
theorem size3g : (Try.prog.info? 3).map (·.size) = some 1 := by kernel_rfl
/-- what a tuner at work knows -/
@[reducible] def knV (p : Rg) (tips roots left : Nat) : Value := .agg #[.int .i64 p.mn, .int .i64 p.mx, .int .i64 tips, .int .i64 roots, .int .i64 left]
@[reducible] def stopsV (bg bm : Nat) : Value := .func (.func 90) #[] #[.pointer (some ⟨bg, 0, none⟩), .pointer (some ⟨bm, 0, none⟩)]
@[reducible] def gameV (j : Job) (A : Option Addr) (c : Nat) (u : Rg) (bg bm : Nat) : Value := .agg #[.int .i64 j.t.pitch.mn, .int .i64 j.t.pitch.mx, .int .i64 j.t.tip.mn, .int .i64 j.t.tip.mx, .int .i64 j.t.root.mn, .int .i64 j.t.root.mx, .int .i64 j.f.up.mn, .int .i64 j.f.up.mx, .int .i64 j.f.down.mn, .int .i64 j.f.down.mx,
  .int .i64 j.f.tipw.mn, .int .i64 j.f.tipw.mx, .int .i64 j.f.rootw.mn, .int .i64 j.f.rootw.mx, .int .i64 j.f.least, .slice A j.shifts.length c, .int .i64 j.within, .int .i64 j.meter, .int .i64 u.mn, .int .i64 u.mx, stopsV bg bm]

/-- a struct that lies in the first result's block, and a second result -/
theorem ret_row_tmpM {P : Program} {fn : Func} {R : Ending → World → Prop} {a : Act} {w : World} {p u : Tmp} {ty : TypeId} (h : fn.results = #[.cell p ty, .tmp u]) (g : Nat) (t : TypeId) (cs : Array Value) (d : TypeDesc)
    (hp : a.tmps.getD p undef = .pointer (some ⟨g, 0, none⟩)) (hg : w.heap[g]? = some (.cells cs t (0, 0))) (hu : P.underlying ty = some d) (hd : (match d with | .struct _ | .array _ _ => true | _ => false) = true) (hi : (P.info? ty).map (·.size) = some cs.size)
    (hdf : a.defers = []) (hR : R (.returned (.tuple #[.agg cs, a.tmps.getD u undef])) w) : bodyPost P fn R .ret a w := by
  refine bodyPost_ret ?_ hdf hR
  rw [results_cell_tmp h, hp]
  simp [asAddr, Result.andThen, run_loadVar_row w g t ty cs (0, 0) d hg hu hd hi]
theorem lessN_zero (x y : Rg) : lessN x y 0 = x := by simp [lessN]
theorem lessN_succ (x y : Rg) (n : Nat) : lessN x y (n + 1) = lessR (lessN x y n) y := by
  unfold lessN lessR
  simp only [Rg.mk.injEq]
  constructor <;> (push_cast; rw [Int.add_mul]; omega)
theorem lessN_bd {x y : Rg} {n : Nat} (hx : 0 ≤ x.mn ∧ x.mn ≤ 100 ∧ 0 ≤ x.mx ∧ x.mx ≤ 100) (hy : 0 ≤ y.mn ∧ y.mn ≤ 12 ∧ 0 ≤ y.mx ∧ y.mx ≤ 12) (hn : n ≤ 10) : (lessN x y n).Bd 1000000000 := by
  have h1 := mul_bd (n := (n : Int)) (a := y.mn) (by omega) (by omega)
  have h2 := mul_bd (n := (n : Int)) (a := y.mx) (by omega) (by omega)
  unfold lessN Rg.Bd
  simp only
  omega

set_option maxRecDepth 100000 in
set_option maxHeartbeats 4000000 in
theorem moved_calls (j : Job) (A : Option Addr) (c : Nat) (u : Rg) (bg bm : Nat) (p : Rg) (tips roots L : Nat) (st : Int) (hst : st = 1 ∨ st = 2) (hj : jobErr j = 0) (hp : p.Bd 1000000) (hn : tips ≤ 5 ∧ roots ≤ 5 ∧ L ≤ 5) (w : World) :
    Calls Try.prog 96 #[gameV j A c u bg bm, knV p tips roots (L + 1), .int .i64 st] w fun e w' => e = .returned (.tuple #[if st = 1 then knV (plusR p j.f.up) (tips + 1) roots L else knV (lessR p j.f.down) tips (roots + 1) L, .bool (if st = 1 then soundR j (tips + 1) roots else soundR j tips (roots + 1))]) ∧ Below w.heap.size w w' := by
  obtain ⟨-, h2, h3, h4, h5, -, -, -, -, -, -⟩ := jobErr_zero hj
  have ht := rgErr_zero ((firstErr_zero _ _).1 h2 j.t.tip (by simp))
  have hr := rgErr_zero ((firstErr_zero _ _).1 h2 j.t.root (by simp))
  have hup := rgErr_zero ((firstErr_zero _ _).1 h3 j.f.up (by simp))
  have hdn := rgErr_zero ((firstErr_zero _ _).1 h3 j.f.down (by simp))
  have htw := rgErr_zero ((firstErr_zero _ _).1 h3 j.f.tipw (by simp))
  have hrw := rgErr_zero ((firstErr_zero _ _).1 h3 j.f.rootw (by simp))
  have hfb : j.f.Bd 1000000000 := ⟨by unfold Rg.Bd; omega, by unfold Rg.Bd; omega, by unfold Rg.Bd; omega, by unfold Rg.Bd; omega⟩
  have htb : (Tng.mk p j.t.tip j.t.root).Bd 1000000000 := ⟨by unfold Rg.Bd at *; simp only; omega, by unfold Rg.Bd; simp only; omega, by unfold Rg.Bd; simp only; omega⟩
  have HF := Lib.hid (fun w => filed_calls (Tng.mk p j.t.tip j.t.root) j.f st hst htb hfb w)
  have HB1 := Lib.hid (fun (i : Nat) (hi : i ≤ 10) w => lessG_calls (lessN j.t.tip j.f.tipw i) j.f.tipw w (lessN_bd (by omega) (by omega) hi) hfb.2.2.1)
  have HB2 := Lib.hid (fun (i : Nat) (hi : i ≤ 10) w => lessG_calls (lessN j.t.root j.f.rootw i) j.f.rootw w (lessN_bd (by omega) (by omega) hi) hfb.2.2.2)
  clear h2 h3 h4 h5 ht hr hup hdn htw hrw hfb htb
  go_enter Try.func96, Try.ntmps96
  go_upto_region 1 with (fail)
  generalize hW : ((w.alloc _).alloc _).alloc _ = W
  generalize h3_ : w.heap.size + 1 + 1 = g3
  generalize h2_ : w.heap.size + 1 = g2
  generalize h1_ : w.heap.size = g1
  obtain ⟨hB0_, Hg1, Hg2, Hg3, kg1, kg2, kg3, fg1, fg2, fg3, lg1, lg2, lg3, bg1, bg2, bg3, ng12, ng13, ng21, ng23, ng31, ng32⟩ := gen3 w _ _ _ _ _ _ hW h3_ h2_ h1_
  clear hW h1_ h2_ h3_
  have H0W := Lib.hid hB0_
  clear hB0_
  have HHg1 := Lib.hid Hg1
  have HHg2 := Lib.hid Hg2
  have HHg3 := Lib.hid Hg3
  clear Hg1 Hg2 Hg3
  go_upto_region 2 with (fail)
  generalize hW : W.alloc _ = V
  generalize h1_ : W.heap.size = s1
  obtain ⟨hB0_, Hs1, ks1, fs1, ls1, bs1⟩ := gen1 W _ _ hW h1_
  clear hW h1_
  have H0V := Lib.hid hB0_
  clear hB0_
  have HHs1 := Lib.hid Hs1
  clear Hs1
  have HV := Lib.hid (bl_then H0W.out H0V.out)
  have bs1w : w.heap.size ≤ s1 := Nat.le_trans H0W.out.size bs1
  have n12 : s1 ≠ g2 := by omega
  have n21 : g2 ≠ s1 := fun h => n12 h.symm
  have n13 : s1 ≠ g3 := by omega
  have n31 : g3 ≠ s1 := fun h => n13 h.symm
  have n23 : g2 ≠ g3 := fun h => by rw [h] at ng23; exact ng23 ▸ rfl
  have n32 : g3 ≠ g2 := fun h => n23 h.symm
  have kp2 : ∀ j', V.cell? ⟨g2, j', none⟩ = #[Value.int .i64 p.mn, Value.int .i64 p.mx, Value.int .i64 tips, Value.int .i64 roots, Value.int .i64 ((L : Int) + 1)][j']? := fun j' => ((CB.of H0V.out).1 _ _ lg2).trans (kg2 j')
  have G2V := Lib.hid ((H0V.out.block _ lg2).trans HHg2.out)
  have G3V := Lib.hid ((H0V.out.block _ lg3).trans HHg3.out)
  clear kg1 kg2 kg3 HHg1 HHg2 HHg3 H0V fg1 fg2 fg3 ks1 fs1
  go_upto_region 3 with ((with_reducible refine st_gate 26 rfl ?_); refine wpList_store_blk rfl 26 _ _ rfl s1 0 [.int .i64 p.mn, .int .i64 p.mx] rfl rfl 130 _ #[Value.int IntKind.i64 (Tng.mk p j.t.tip j.t.root).pitch.mn, Value.int IntKind.i64 (Tng.mk p j.t.tip j.t.root).pitch.mx, Value.int IntKind.i64 (Tng.mk p j.t.tip j.t.root).tip.mn, Value.int IntKind.i64 (Tng.mk p j.t.tip j.t.root).tip.mx, Value.int IntKind.i64 (Tng.mk p j.t.tip j.t.root).root.mn, Value.int IntKind.i64 (Tng.mk p j.t.tip j.t.root).root.mx, Value.int IntKind.i64 j.f.up.mn, Value.int IntKind.i64 j.f.up.mx, Value.int IntKind.i64 j.f.down.mn, Value.int IntKind.i64 j.f.down.mx, Value.int IntKind.i64 j.f.tipw.mn, Value.int IntKind.i64 j.f.tipw.mx, Value.int IntKind.i64 j.f.rootw.mn, Value.int IntKind.i64 j.f.rootw.mx, Value.int IntKind.i64 j.f.least] HHs1.out size26g (by simp) (by simp [Value.oneCell']) (by simp) (fun w7 hg_w7 hw_w7 => ?_))
  have H7 := Lib.hid (hw_w7.below HV.out bs1w)
  have G27 := Lib.hid ((hw_w7.block _ n21).trans G2V.out)
  have G37 := Lib.hid ((hw_w7.block _ n31).trans G3V.out)
  have S17 := Lib.hid hg_w7
  clear HHs1 G2V G3V HV hg_w7 hw_w7 kp2
  obtain ⟨T, hT⟩ : ∃ T, filedT (Tng.mk p j.t.tip j.t.root) j.f st = T := ⟨_, rfl⟩
  rw [hT] at HF
  have HT := Lib.hid hT
  clear hT
  have HB := Lib.hid (Below.refl w7.heap.size w7)
  go_upto_region 4 with (first
    | ((with_reducible refine ld_gate 130 rfl ?_); refine wpList_load_row rfl 130 _ rfl s1 rfl 130 _ (0, 0) _ S17.out Try.underlying130 rfl size130 ?_)
    | (go_at_call 97; refine (HF.out _).mono ?_; rintro e_ w5 ⟨rfl, hb_⟩; have HB_ := Lib.hid (bl_then2 (by (repeat (with_reducible first | exact HB.out | apply bl_alloc2 | apply bl_drew2 | apply bl_drewN2))) hb_); clear HB hb_; (try clear hq); have HB := HB_; clear HB_; have hq := CB.of HB.out)
    | ((with_reducible refine st_gate 130 rfl ?_); refine wpList_store_row rfl 130 _ _ rfl _ _ rfl rfl 130 _ (heap_alloc_at _ _ _ rfl) size130 (by simp) (by simp [Value.oneCell']) ?_))
  generalize hf9 : w5.heap.size = f9
  generalize hX : (w5.alloc _).setRow f9 _ = X
  have F9 := Lib.hid (hX ▸ setRow_heap (heap_alloc_at w5 _ f9 hf9.symm))
  have HBX : Below w7.heap.size w7 X := hX ▸ bl_setRow (bl_alloc HB.out _) (hf9 ▸ HB.out.size) _
  have kf : ∀ j', X.cell? ⟨f9, j', none⟩ = #[Value.int IntKind.i64 T.pitch.mn, Value.int IntKind.i64 T.pitch.mx, Value.int IntKind.i64 T.tip.mn, Value.int IntKind.i64 T.tip.mx, Value.int IntKind.i64 T.root.mn, Value.int IntKind.i64 T.root.mx, Value.int IntKind.i64 j.f.up.mn, Value.int IntKind.i64 j.f.up.mx, Value.int IntKind.i64 j.f.down.mn, Value.int IntKind.i64 j.f.down.mx, Value.int IntKind.i64 j.f.tipw.mn, Value.int IntKind.i64 j.f.tipw.mx, Value.int IntKind.i64 j.f.rootw.mn, Value.int IntKind.i64 j.f.rootw.mx, Value.int IntKind.i64 j.f.least][j']? := fun j' => cell_of_row _ _ j' _ _ _ F9.out
  have HX := Lib.hid (bl_then H7.out HBX)
  have l17 := (Array.getElem?_eq_some_iff.1 S17.out).1
  have l27 := (Array.getElem?_eq_some_iff.1 G27.out).1
  have l37 := (Array.getElem?_eq_some_iff.1 G37.out).1
  have S1X := Lib.hid ((HBX.block _ l17).trans S17.out)
  have G2X := Lib.hid ((HBX.block _ l27).trans G27.out)
  have G3X := Lib.hid ((HBX.block _ l37).trans G37.out)
  have n92 : f9 ≠ g2 := by have := HB.out.size; omega
  have lf9 := (Array.getElem?_eq_some_iff.1 F9.out).1
  clear hX hf9 HBX HB hq H7 S17 G27 G37 HF F9 H0W l17 l27 l37 lg1 lg2 lg3
  have k2 : ∀ j', X.cell? ⟨g2, j', none⟩ = #[Value.int .i64 p.mn, Value.int .i64 p.mx, Value.int .i64 tips, Value.int .i64 roots, Value.int .i64 ((L : Int) + 1)][j']? := fun j' => cell_of_row _ _ j' _ _ _ G2X.out
  rcases hst with rfl | rfl
  · have eT : T.pitch = plusR p j.f.up := by rw [← HT.out]; rfl
    obtain ⟨q, hq9⟩ : ∃ q, plusR p j.f.up = q := ⟨_, rfl⟩
    rw [hq9] at eT
    have HQ := Lib.hid hq9
    have HTQ := Lib.hid eT
    have kf0 : X.cell? ⟨f9, 0, none⟩ = some (.int .i64 q.mn) := by rw [← eT]; exact kf 0
    have kf1 : X.cell? ⟨f9, 1, none⟩ = some (.int .i64 q.mx) := by rw [← eT]; exact kf 1
    clear kf eT hq9 HT
    go_upto_region 7 with ((with_reducible refine st_gate 3 rfl ?_); refine wpList_store_blk rfl 3 _ _ rfl g2 2 [.int .i64 (tips + 1)] rfl rfl 111 _ #[Value.int .i64 p.mn, Value.int .i64 p.mx, Value.int .i64 ((tips : Int) + 1), Value.int .i64 roots, Value.int .i64 ((L : Int) + 1)] G2X.out size3g (by simp) (by simp [Value.oneCell']) (by simp) (fun w8 hg_w8 hw_w8 => ?_))
    have H8 := Lib.hid (hw_w8.below HX.out bg2)
    have S18 := Lib.hid ((hw_w8.block _ n12).trans S1X.out)
    have G38 := Lib.hid ((hw_w8.block _ n32).trans G3X.out)
    have c0 := (hw_w8.cell n92 0).trans kf0
    have c1 := (hw_w8.cell n92 1).trans kf1
    have G28 := Lib.hid hg_w8
    have k28 : ∀ j', w8.cell? ⟨g2, j', none⟩ = #[Value.int .i64 p.mn, Value.int .i64 p.mx, Value.int .i64 ((tips : Int) + 1), Value.int .i64 roots, Value.int .i64 ((L : Int) + 1)][j']? := fun j' => cell_of_row _ _ j' _ _ _ hg_w8
    clear kf0 kf1 k2 S1X G2X G3X HX hg_w8 hw_w8
    go_upto_region 8 with (first
      | ((with_reducible refine st_gate 26 rfl ?_); refine wpList_store_blk rfl 26 _ _ rfl g2 0 [.int .i64 q.mn, .int .i64 q.mx] rfl rfl 111 _ #[Value.int .i64 q.mn, Value.int .i64 q.mx, Value.int .i64 ((tips : Int) + 1), Value.int .i64 roots, Value.int .i64 ((L : Int) + 1)] G28.out size26g (by simp) (by simp [Value.oneCell']) (by simp) (fun w9 hg_w9 hw_w9 => ?_))
      | ((with_reducible refine st_gate 3 rfl ?_); refine wpList_store_blk rfl 3 _ _ rfl g2 4 [.int .i64 L] rfl rfl 111 _ #[Value.int .i64 q.mn, Value.int .i64 q.mx, Value.int .i64 ((tips : Int) + 1), Value.int .i64 roots, Value.int .i64 L] hg_w9 size3g (by simp) (by simp [Value.oneCell']) (by simp) (fun w10 hg_w10 hw_w10 => ?_)))
    have HY := Lib.hid (hw_w10.below (hw_w9.below H8.out bg2) bg2)
    have SY := Lib.hid ((hw_w10.block _ n12).trans ((hw_w9.block _ n12).trans S18.out))
    have G3Y := Lib.hid ((hw_w10.block _ n32).trans ((hw_w9.block _ n32).trans G38.out))
    have G2Y := Lib.hid hg_w10
    have k2y : ∀ j', w10.cell? ⟨g2, j', none⟩ = #[Value.int .i64 q.mn, Value.int .i64 q.mx, Value.int .i64 ((tips : Int) + 1), Value.int .i64 roots, Value.int .i64 L][j']? := fun j' => cell_of_row _ _ j' _ _ _ hg_w10
    clear H8 S18 G28 G38 k28 hg_w9 hw_w9 hg_w10 hw_w10 c0 c1
    go_upto_block 0 with (fail)
    go_wp2_with fail
    go_loopw [44] (fun i wr => ∃ n : Nat, n ≤ tips + 1 ∧ i = .int .i64 n ∧ Hid (Below w.heap.size w wr ∧ wr.heap[s1]? = some (.cells #[Value.int IntKind.i64 (Tng.mk p (lessN j.t.tip j.f.tipw n) j.t.root).pitch.mn, Value.int IntKind.i64 (Tng.mk p (lessN j.t.tip j.f.tipw n) j.t.root).pitch.mx, Value.int IntKind.i64 (Tng.mk p (lessN j.t.tip j.f.tipw n) j.t.root).tip.mn, Value.int IntKind.i64 (Tng.mk p (lessN j.t.tip j.f.tipw n) j.t.root).tip.mx, Value.int IntKind.i64 (Tng.mk p (lessN j.t.tip j.f.tipw n) j.t.root).root.mn, Value.int IntKind.i64 (Tng.mk p (lessN j.t.tip j.f.tipw n) j.t.root).root.mx, Value.int IntKind.i64 j.f.up.mn, Value.int IntKind.i64 j.f.up.mx, Value.int IntKind.i64 j.f.down.mn, Value.int IntKind.i64 j.f.down.mx, Value.int IntKind.i64 j.f.tipw.mn, Value.int IntKind.i64 j.f.tipw.mx, Value.int IntKind.i64 j.f.rootw.mn, Value.int IntKind.i64 j.f.rootw.mx, Value.int IntKind.i64 j.f.least] 130 (0, 0)) ∧ wr.heap[g2]? = some (.cells #[Value.int .i64 q.mn, Value.int .i64 q.mx, Value.int .i64 ((tips : Int) + 1), Value.int .i64 roots, Value.int .i64 L] 111 (0, 0)) ∧ wr.heap[g3]? = some (.cells #[.int .i64 0, .int .i64 0, .int .i64 0, .int .i64 0, .int .i64 0] 111 (0, 0))))
      (fun i _ => tips + 1 - (intOf i).toNat)
    case atStart => exact ⟨0, Nat.zero_le _, rfl, Lib.hid ⟨HY.out, by rw [lessN_zero]; exact SY.out, G2Y.out, G3Y.out⟩⟩
    case round =>
      obtain ⟨n, hn1, rfl, HH⟩ := hrel
      clear HY SY G2Y G3Y k2y
      by_cases hlt : n < tips + 1
      · have hlti : ((n : Int) < (tips : Int) + 1) := by omega
        have HH1 := Lib.hid HH.out.1
        have HH2 := Lib.hid HH.out.2.1
        have HH3 := Lib.hid HH.out.2.2.1
        have HH4 := Lib.hid HH.out.2.2.2
        clear HH
        have HL := HB1.out n (by omega)
        have hy := lessN_succ j.t.tip j.f.tipw n
        obtain ⟨x, hx⟩ : ∃ x, lessN j.t.tip j.f.tipw n = x := ⟨_, rfl⟩
        rw [hx] at HL hy HH2
        obtain ⟨y, hy9⟩ : ∃ y, lessR x j.f.tipw = y := ⟨_, rfl⟩
        rw [hy9] at HL hy
        have HY := Lib.hid hy
        have HLL := Lib.hid HL
        clear hy hy9 hx HL
        have kss : ∀ j', wr.cell? ⟨s1, j', none⟩ = #[Value.int IntKind.i64 (Tng.mk p x j.t.root).pitch.mn, Value.int IntKind.i64 (Tng.mk p x j.t.root).pitch.mx, Value.int IntKind.i64 (Tng.mk p x j.t.root).tip.mn, Value.int IntKind.i64 (Tng.mk p x j.t.root).tip.mx, Value.int IntKind.i64 (Tng.mk p x j.t.root).root.mn, Value.int IntKind.i64 (Tng.mk p x j.t.root).root.mx, Value.int IntKind.i64 j.f.up.mn, Value.int IntKind.i64 j.f.up.mx, Value.int IntKind.i64 j.f.down.mn, Value.int IntKind.i64 j.f.down.mx, Value.int IntKind.i64 j.f.tipw.mn, Value.int IntKind.i64 j.f.tipw.mx, Value.int IntKind.i64 j.f.rootw.mn, Value.int IntKind.i64 j.f.rootw.mx, Value.int IntKind.i64 j.f.least][j']? := fun j' => cell_of_row _ _ j' _ _ _ HH2.out
        have ls1 := (Array.getElem?_eq_some_iff.1 HH2.out).1
        have HB := Lib.hid (Below.refl wr.heap.size wr)
        go_wp2_with (first
          | (go_at_call 110; refine (HLL.out _).mono ?_; rintro e_ w11 ⟨rfl, hb_⟩; have HB_ := Lib.hid (bl_then2 (by (repeat (with_reducible first | exact HB.out | apply bl_alloc2 | apply bl_drew2 | apply bl_drewN2))) hb_); clear HB hb_; (try clear hq); have HB := HB_; clear HB_; have hq := CB.of HB.out)
          | ((with_reducible refine st_gate 26 rfl ?_); refine wpList_store_blk rfl 26 _ _ rfl s1 2 [.int .i64 y.mn, .int .i64 y.mx] rfl rfl 130 _ #[Value.int IntKind.i64 (Tng.mk p y j.t.root).pitch.mn, Value.int IntKind.i64 (Tng.mk p y j.t.root).pitch.mx, Value.int IntKind.i64 (Tng.mk p y j.t.root).tip.mn, Value.int IntKind.i64 (Tng.mk p y j.t.root).tip.mx, Value.int IntKind.i64 (Tng.mk p y j.t.root).root.mn, Value.int IntKind.i64 (Tng.mk p y j.t.root).root.mx, Value.int IntKind.i64 j.f.up.mn, Value.int IntKind.i64 j.f.up.mx, Value.int IntKind.i64 j.f.down.mn, Value.int IntKind.i64 j.f.down.mx, Value.int IntKind.i64 j.f.tipw.mn, Value.int IntKind.i64 j.f.tipw.mx, Value.int IntKind.i64 j.f.rootw.mn, Value.int IntKind.i64 j.f.rootw.mx, Value.int IntKind.i64 j.f.least] ((HB.out.block _ ls1).trans HH2.out) size26g (by simp) (by simp [Value.oneCell']) (by simp) (fun w12 hg_w12 hw_w12 => ?_)))
        refine ⟨⟨n + 1, by omega, by simp, Lib.hid ⟨hw_w12.below (bl_then HH1.out HB.out) bs1w, by rw [HY.out]; exact hg_w12, (hw_w12.block _ n21).trans ((HB.out.block _ (Array.getElem?_eq_some_iff.1 HH3.out).1).trans HH3.out), (hw_w12.block _ n31).trans ((HB.out.block _ (Array.getElem?_eq_some_iff.1 HH4.out).1).trans HH4.out)⟩⟩, ?_⟩
        simp [intOf]; omega
      · have hlti : ¬ ((n : Int) < (tips : Int) + 1) := by omega
        obtain rfl : n = tips + 1 := by omega
        obtain ⟨xt, hxt⟩ : ∃ xt, lessN j.t.tip j.f.tipw (tips + 1) = xt := ⟨_, rfl⟩
        rw [hxt] at HH
        have HXT := Lib.hid hxt
        clear hxt
        have k2y : ∀ j', wr.cell? ⟨g2, j', none⟩ = #[Value.int .i64 q.mn, Value.int .i64 q.mx, Value.int .i64 ((tips : Int) + 1), Value.int .i64 roots, Value.int .i64 L][j']? := fun j' => cell_of_row _ _ j' _ _ _ HH.out.2.2.1
        go_upto_block 2 with (fail)
        go_wp2_with fail
        go_loopw [58] (fun i wr => ∃ n : Nat, n ≤ roots ∧ i = .int .i64 n ∧ Hid (Below w.heap.size w wr ∧ wr.heap[s1]? = some (.cells #[Value.int IntKind.i64 (Tng.mk p xt (lessN j.t.root j.f.rootw n)).pitch.mn, Value.int IntKind.i64 (Tng.mk p xt (lessN j.t.root j.f.rootw n)).pitch.mx, Value.int IntKind.i64 (Tng.mk p xt (lessN j.t.root j.f.rootw n)).tip.mn, Value.int IntKind.i64 (Tng.mk p xt (lessN j.t.root j.f.rootw n)).tip.mx, Value.int IntKind.i64 (Tng.mk p xt (lessN j.t.root j.f.rootw n)).root.mn, Value.int IntKind.i64 (Tng.mk p xt (lessN j.t.root j.f.rootw n)).root.mx, Value.int IntKind.i64 j.f.up.mn, Value.int IntKind.i64 j.f.up.mx, Value.int IntKind.i64 j.f.down.mn, Value.int IntKind.i64 j.f.down.mx, Value.int IntKind.i64 j.f.tipw.mn, Value.int IntKind.i64 j.f.tipw.mx, Value.int IntKind.i64 j.f.rootw.mn, Value.int IntKind.i64 j.f.rootw.mx, Value.int IntKind.i64 j.f.least] 130 (0, 0)) ∧ wr.heap[g2]? = some (.cells #[Value.int .i64 q.mn, Value.int .i64 q.mx, Value.int .i64 ((tips : Int) + 1), Value.int .i64 roots, Value.int .i64 L] 111 (0, 0)) ∧ wr.heap[g3]? = some (.cells #[.int .i64 0, .int .i64 0, .int .i64 0, .int .i64 0, .int .i64 0] 111 (0, 0))))
          (fun i _ => roots - (intOf i).toNat)
        case atStart => exact ⟨0, Nat.zero_le _, rfl, Lib.hid ⟨HH.out.1, by rw [lessN_zero]; exact HH.out.2.1, HH.out.2.2.1, HH.out.2.2.2⟩⟩
        case round =>
          clear HH k2y hn1 hlt hlti
          obtain ⟨n, hn1, rfl, HH⟩ := hrel
          by_cases hlt : n < roots
          · have hlti : ((n : Int) < (roots : Int)) := by omega
            have HH1 := Lib.hid HH.out.1
            have HH2 := Lib.hid HH.out.2.1
            have HH3 := Lib.hid HH.out.2.2.1
            have HH4 := Lib.hid HH.out.2.2.2
            clear HH
            have HL := HB2.out n (by omega)
            have hy := lessN_succ j.t.root j.f.rootw n
            obtain ⟨x, hx⟩ : ∃ x, lessN j.t.root j.f.rootw n = x := ⟨_, rfl⟩
            rw [hx] at HL hy HH2
            obtain ⟨y, hy9⟩ : ∃ y, lessR x j.f.rootw = y := ⟨_, rfl⟩
            rw [hy9] at HL hy
            have HY := Lib.hid hy
            have HLL := Lib.hid HL
            clear hy hy9 hx HL
            have kss : ∀ j', wr.cell? ⟨s1, j', none⟩ = #[Value.int IntKind.i64 (Tng.mk p xt x).pitch.mn, Value.int IntKind.i64 (Tng.mk p xt x).pitch.mx, Value.int IntKind.i64 (Tng.mk p xt x).tip.mn, Value.int IntKind.i64 (Tng.mk p xt x).tip.mx, Value.int IntKind.i64 (Tng.mk p xt x).root.mn, Value.int IntKind.i64 (Tng.mk p xt x).root.mx, Value.int IntKind.i64 j.f.up.mn, Value.int IntKind.i64 j.f.up.mx, Value.int IntKind.i64 j.f.down.mn, Value.int IntKind.i64 j.f.down.mx, Value.int IntKind.i64 j.f.tipw.mn, Value.int IntKind.i64 j.f.tipw.mx, Value.int IntKind.i64 j.f.rootw.mn, Value.int IntKind.i64 j.f.rootw.mx, Value.int IntKind.i64 j.f.least][j']? := fun j' => cell_of_row _ _ j' _ _ _ HH2.out
            have ls1 := (Array.getElem?_eq_some_iff.1 HH2.out).1
            have HB := Lib.hid (Below.refl wr.heap.size wr)
            go_wp2_with (first
              | (go_at_call 110; refine (HLL.out _).mono ?_; rintro e_ w11 ⟨rfl, hb_⟩; have HB_ := Lib.hid (bl_then2 (by (repeat (with_reducible first | exact HB.out | apply bl_alloc2 | apply bl_drew2 | apply bl_drewN2))) hb_); clear HB hb_; (try clear hq); have HB := HB_; clear HB_; have hq := CB.of HB.out)
              | ((with_reducible refine st_gate 26 rfl ?_); refine wpList_store_blk rfl 26 _ _ rfl s1 4 [.int .i64 y.mn, .int .i64 y.mx] rfl rfl 130 _ #[Value.int IntKind.i64 (Tng.mk p xt y).pitch.mn, Value.int IntKind.i64 (Tng.mk p xt y).pitch.mx, Value.int IntKind.i64 (Tng.mk p xt y).tip.mn, Value.int IntKind.i64 (Tng.mk p xt y).tip.mx, Value.int IntKind.i64 (Tng.mk p xt y).root.mn, Value.int IntKind.i64 (Tng.mk p xt y).root.mx, Value.int IntKind.i64 j.f.up.mn, Value.int IntKind.i64 j.f.up.mx, Value.int IntKind.i64 j.f.down.mn, Value.int IntKind.i64 j.f.down.mx, Value.int IntKind.i64 j.f.tipw.mn, Value.int IntKind.i64 j.f.tipw.mx, Value.int IntKind.i64 j.f.rootw.mn, Value.int IntKind.i64 j.f.rootw.mx, Value.int IntKind.i64 j.f.least] ((HB.out.block _ ls1).trans HH2.out) size26g (by simp) (by simp [Value.oneCell']) (by simp) (fun w12 hg_w12 hw_w12 => ?_)))
            refine ⟨⟨n + 1, by omega, by simp, Lib.hid ⟨hw_w12.below (bl_then HH1.out HB.out) bs1w, by rw [HY.out]; exact hg_w12, (hw_w12.block _ n21).trans ((HB.out.block _ (Array.getElem?_eq_some_iff.1 HH3.out).1).trans HH3.out), (hw_w12.block _ n31).trans ((HB.out.block _ (Array.getElem?_eq_some_iff.1 HH4.out).1).trans HH4.out)⟩⟩, ?_⟩
            simp [intOf]; omega
          · have hlti : ¬ ((n : Int) < (roots : Int)) := by omega
            obtain rfl : n = roots := by omega
            obtain ⟨xr, hxr⟩ : ∃ xr, lessN j.t.root j.f.rootw n = xr := ⟨_, rfl⟩
            rw [hxr] at HH
            have HXR := Lib.hid hxr
            clear hxr
            have HS9 := Lib.hid (show ∀ w' : World, (w'.heap[s1]? = wr.heap[s1]?) → (w'.heap[g2]? = wr.heap[g2]?) → (∀ j', w'.cell? ⟨g2, j', none⟩ = #[Value.int .i64 q.mn, Value.int .i64 q.mx, Value.int .i64 ((tips : Int) + 1), Value.int .i64 n, Value.int .i64 L][j']?) ∧ (∀ j', w'.cell? ⟨s1, j', none⟩ = #[Value.int IntKind.i64 (Tng.mk p xt xr).pitch.mn, Value.int IntKind.i64 (Tng.mk p xt xr).pitch.mx, Value.int IntKind.i64 (Tng.mk p xt xr).tip.mn, Value.int IntKind.i64 (Tng.mk p xt xr).tip.mx, Value.int IntKind.i64 (Tng.mk p xt xr).root.mn, Value.int IntKind.i64 (Tng.mk p xt xr).root.mx, Value.int IntKind.i64 j.f.up.mn, Value.int IntKind.i64 j.f.up.mx, Value.int IntKind.i64 j.f.down.mn, Value.int IntKind.i64 j.f.down.mx, Value.int IntKind.i64 j.f.tipw.mn, Value.int IntKind.i64 j.f.tipw.mx, Value.int IntKind.i64 j.f.rootw.mn, Value.int IntKind.i64 j.f.rootw.mx, Value.int IntKind.i64 j.f.least][j']?) from
              fun w' h1 h2 => ⟨fun j' => cell_of_row _ _ j' _ _ _ (h2.trans HH.out.2.2.1), fun j' => cell_of_row _ _ j' _ _ _ (h1.trans HH.out.2.1)⟩)
            have l1 := (Array.getElem?_eq_some_iff.1 HH.out.2.1).1
            have l2 := (Array.getElem?_eq_some_iff.1 HH.out.2.2.1).1
            have l3 := (Array.getElem?_eq_some_iff.1 HH.out.2.2.2).1
            obtain ⟨sp, hsp⟩ : ∃ sp, spoilR xt xr j.f.least = sp := ⟨_, rfl⟩
            have hSP := spoiled_calls (Tng.mk p xt xr) j.f
            rw [hsp] at hSP
            have HSP := Lib.hid hSP
            have HSS := Lib.hid hsp
            clear hsp hSP
            have HB := Lib.hid (Below.refl wr.heap.size wr)
            go_upto_region 16 with (fail)
            refine wp_region_peel (S := fun w' => (∀ j', w'.cell? ⟨g2, j', none⟩ = #[Value.int .i64 q.mn, Value.int .i64 q.mx, Value.int .i64 ((tips : Int) + 1), Value.int .i64 n, Value.int .i64 L][j']?) ∧ (∀ j', w'.cell? ⟨s1, j', none⟩ = #[Value.int IntKind.i64 (Tng.mk p xt xr).pitch.mn, Value.int IntKind.i64 (Tng.mk p xt xr).pitch.mx, Value.int IntKind.i64 (Tng.mk p xt xr).tip.mn, Value.int IntKind.i64 (Tng.mk p xt xr).tip.mx, Value.int IntKind.i64 (Tng.mk p xt xr).root.mn, Value.int IntKind.i64 (Tng.mk p xt xr).root.mx, Value.int IntKind.i64 j.f.up.mn, Value.int IntKind.i64 j.f.up.mx, Value.int IntKind.i64 j.f.down.mn, Value.int IntKind.i64 j.f.down.mx, Value.int IntKind.i64 j.f.tipw.mn, Value.int IntKind.i64 j.f.tipw.mx, Value.int IntKind.i64 j.f.rootw.mn, Value.int IntKind.i64 j.f.rootw.mx, Value.int IntKind.i64 j.f.least][j']?)) 5 _ _ (by kernel_rfl) rfl rfl rfl (by kernel_rfl) (by kernel_rfl) (HS9.out _ rfl rfl) (fun hHeld => ?_)
            simp only [Act.put, stillOf, List.set_cons_succ, List.set_cons_zero, List.setIfInBounds_toArray, List.getElem_toArray, List.getElem_cons_succ, List.getElem_cons_zero]
            refine wpAnyH_take (i := 0) (v := ?_) rfl (by kernel_rfl) (by kernel_rfl) (by kernel_rfl) (fun _ _ _ h => h) (Or.inl ⟨by rfl, ?_⟩) (by assumption) ?_; rotate_left 1; (focus ((intro w_ hS_; (try dsimp only at hS_); go_simp; first | done | with_reducible rfl))); simp only [Act.put, stillOf, List.set_cons_succ, List.set_cons_zero, List.setIfInBounds_toArray, List.getElem_toArray, List.getElem_cons_succ, List.getElem_cons_zero]
            refine wpAnyH_take (i := 1) (v := ?_) rfl (by kernel_rfl) (by kernel_rfl) (by kernel_rfl) (fun _ _ _ h => h) (Or.inl ⟨by rfl, ?_⟩) (by assumption) ?_; rotate_left 1; (focus ((intro w_ hS_; (try dsimp only at hS_); go_simp; first | done | with_reducible rfl))); simp only [Act.put, stillOf, List.set_cons_succ, List.set_cons_zero, List.setIfInBounds_toArray, List.getElem_toArray, List.getElem_cons_succ, List.getElem_cons_zero]
            refine wpAnyH_ready (rs := [2]) (by kernel_rfl) (by simp) (AllReadyH.cons rfl (fun K hK => ?_) AllReadyH.nil)
            go_simp
            (go_at_call 111; refine (HSP.out _).mono ?_; rintro e_ w13 ⟨rfl, hb_⟩; have HB_ := Lib.hid (bl_then2 (by (repeat (with_reducible first | exact HB.out | apply bl_alloc2 | apply bl_drew2 | apply bl_drewN2))) hb_); clear HB hb_; (try clear hq); have HB := HB_; clear HB_; have hq := CB.of HB.out)
            refine hK.out _ _ (HS9.out _ (HB.out.block _ l1) (HB.out.block _ l2)) (fun hHeld => ?_)
            clear hK K
            refine wpAnyH_take (i := 3) (v := ?_) rfl (by kernel_rfl) (by kernel_rfl) (by kernel_rfl) (fun _ _ _ h => h) (Or.inl ⟨by rfl, ?_⟩) (by assumption) ?_; rotate_left 1; (focus ((intro w_ hS_; (try dsimp only at hS_); go_simp; first | done | with_reducible rfl))); simp only [Act.put, stillOf, List.set_cons_succ, List.set_cons_zero, List.setIfInBounds_toArray, List.getElem_toArray, List.getElem_cons_succ, List.getElem_cons_zero]
            refine wpAnyH_ready (rs := [4]) (by kernel_rfl) (by simp) (AllReadyH.cons rfl (fun K hK => ?_) AllReadyH.nil)
            refine step_store_blk rfl 111 _ _ rfl g3 0 [.int .i64 q.mn, .int .i64 q.mx, .int .i64 ((tips : Int) + 1), .int .i64 n, .int .i64 L] rfl rfl 111 _ #[Value.int .i64 q.mn, Value.int .i64 q.mx, Value.int .i64 ((tips : Int) + 1), Value.int .i64 n, Value.int .i64 L] ((HB.out.block _ l3).trans HH.out.2.2.2) size111 (by simp) (by simp [Value.oneCell']) (by simp) (fun w14 hg14 hw14 => ?_)
            refine hK.out _ _ (HS9.out _ ((hw14.block _ n13).trans (HB.out.block _ l1)) ((hw14.block _ n23).trans (HB.out.block _ l2))) (fun hHeld => ?_)
            clear hK K
            refine wpAnyH_take (i := 5) (v := ?_) rfl (by kernel_rfl) (by kernel_rfl) (by kernel_rfl) (fun _ _ _ h => h) (Or.inl ⟨by rfl, ?_⟩) (by assumption) ?_; rotate_left 1; (focus ((intro w_ hS_; (try dsimp only at hS_); go_simp; first | done | with_reducible rfl))); simp only [Act.put, stillOf, List.set_cons_succ, List.set_cons_zero, List.setIfInBounds_toArray, List.getElem_toArray, List.getElem_cons_succ, List.getElem_cons_zero]
            refine wpAnyH_done (by kernel_rfl) ?_ _
            unfold Peeled
            dsimp only
            go_simp
            go_wp2_with fail
            refine ret_row_tmpM rfl g3 111 _ _ rfl hg14 Try.underlying111 rfl size111 rfl ⟨?_, hw14.below (bl_then HH.out.1 HB.out) bg3⟩
            have e1 := HSS.out
            have e2 := HXT.out
            have e3 := HXR.out
            have e4 := HQ.out
            subst e4
            simp [soundR, e2, e3, e1]
            rw [Bool.eq_iff_iff]; simp
  · have eT : T.pitch = lessR p j.f.down := by rw [← HT.out]; rfl
    obtain ⟨q, hq9⟩ : ∃ q, lessR p j.f.down = q := ⟨_, rfl⟩
    rw [hq9] at eT
    have HQ := Lib.hid hq9
    have HTQ := Lib.hid eT
    have kf0 : X.cell? ⟨f9, 0, none⟩ = some (.int .i64 q.mn) := by rw [← eT]; exact kf 0
    have kf1 : X.cell? ⟨f9, 1, none⟩ = some (.int .i64 q.mx) := by rw [← eT]; exact kf 1
    clear kf eT hq9 HT
    go_upto_region 7 with ((with_reducible refine st_gate 3 rfl ?_); refine wpList_store_blk rfl 3 _ _ rfl g2 3 [.int .i64 (roots + 1)] rfl rfl 111 _ #[Value.int .i64 p.mn, Value.int .i64 p.mx, Value.int .i64 tips, Value.int .i64 ((roots : Int) + 1), Value.int .i64 ((L : Int) + 1)] G2X.out size3g (by simp) (by simp [Value.oneCell']) (by simp) (fun w8 hg_w8 hw_w8 => ?_))
    have H8 := Lib.hid (hw_w8.below HX.out bg2)
    have S18 := Lib.hid ((hw_w8.block _ n12).trans S1X.out)
    have G38 := Lib.hid ((hw_w8.block _ n32).trans G3X.out)
    have c0 := (hw_w8.cell n92 0).trans kf0
    have c1 := (hw_w8.cell n92 1).trans kf1
    have G28 := Lib.hid hg_w8
    have k28 : ∀ j', w8.cell? ⟨g2, j', none⟩ = #[Value.int .i64 p.mn, Value.int .i64 p.mx, Value.int .i64 tips, Value.int .i64 ((roots : Int) + 1), Value.int .i64 ((L : Int) + 1)][j']? := fun j' => cell_of_row _ _ j' _ _ _ hg_w8
    clear kf0 kf1 k2 S1X G2X G3X HX hg_w8 hw_w8
    go_upto_region 8 with (first
      | ((with_reducible refine st_gate 26 rfl ?_); refine wpList_store_blk rfl 26 _ _ rfl g2 0 [.int .i64 q.mn, .int .i64 q.mx] rfl rfl 111 _ #[Value.int .i64 q.mn, Value.int .i64 q.mx, Value.int .i64 tips, Value.int .i64 ((roots : Int) + 1), Value.int .i64 ((L : Int) + 1)] G28.out size26g (by simp) (by simp [Value.oneCell']) (by simp) (fun w9 hg_w9 hw_w9 => ?_))
      | ((with_reducible refine st_gate 3 rfl ?_); refine wpList_store_blk rfl 3 _ _ rfl g2 4 [.int .i64 L] rfl rfl 111 _ #[Value.int .i64 q.mn, Value.int .i64 q.mx, Value.int .i64 tips, Value.int .i64 ((roots : Int) + 1), Value.int .i64 L] hg_w9 size3g (by simp) (by simp [Value.oneCell']) (by simp) (fun w10 hg_w10 hw_w10 => ?_)))
    have HY := Lib.hid (hw_w10.below (hw_w9.below H8.out bg2) bg2)
    have SY := Lib.hid ((hw_w10.block _ n12).trans ((hw_w9.block _ n12).trans S18.out))
    have G3Y := Lib.hid ((hw_w10.block _ n32).trans ((hw_w9.block _ n32).trans G38.out))
    have G2Y := Lib.hid hg_w10
    have k2y : ∀ j', w10.cell? ⟨g2, j', none⟩ = #[Value.int .i64 q.mn, Value.int .i64 q.mx, Value.int .i64 tips, Value.int .i64 ((roots : Int) + 1), Value.int .i64 L][j']? := fun j' => cell_of_row _ _ j' _ _ _ hg_w10
    clear H8 S18 G28 G38 k28 hg_w9 hw_w9 hg_w10 hw_w10 c0 c1
    go_upto_block 0 with (fail)
    go_wp2_with fail
    go_loopw [44] (fun i wr => ∃ n : Nat, n ≤ tips ∧ i = .int .i64 n ∧ Hid (Below w.heap.size w wr ∧ wr.heap[s1]? = some (.cells #[Value.int IntKind.i64 (Tng.mk p (lessN j.t.tip j.f.tipw n) j.t.root).pitch.mn, Value.int IntKind.i64 (Tng.mk p (lessN j.t.tip j.f.tipw n) j.t.root).pitch.mx, Value.int IntKind.i64 (Tng.mk p (lessN j.t.tip j.f.tipw n) j.t.root).tip.mn, Value.int IntKind.i64 (Tng.mk p (lessN j.t.tip j.f.tipw n) j.t.root).tip.mx, Value.int IntKind.i64 (Tng.mk p (lessN j.t.tip j.f.tipw n) j.t.root).root.mn, Value.int IntKind.i64 (Tng.mk p (lessN j.t.tip j.f.tipw n) j.t.root).root.mx, Value.int IntKind.i64 j.f.up.mn, Value.int IntKind.i64 j.f.up.mx, Value.int IntKind.i64 j.f.down.mn, Value.int IntKind.i64 j.f.down.mx, Value.int IntKind.i64 j.f.tipw.mn, Value.int IntKind.i64 j.f.tipw.mx, Value.int IntKind.i64 j.f.rootw.mn, Value.int IntKind.i64 j.f.rootw.mx, Value.int IntKind.i64 j.f.least] 130 (0, 0)) ∧ wr.heap[g2]? = some (.cells #[Value.int .i64 q.mn, Value.int .i64 q.mx, Value.int .i64 tips, Value.int .i64 ((roots : Int) + 1), Value.int .i64 L] 111 (0, 0)) ∧ wr.heap[g3]? = some (.cells #[.int .i64 0, .int .i64 0, .int .i64 0, .int .i64 0, .int .i64 0] 111 (0, 0))))
      (fun i _ => tips - (intOf i).toNat)
    case atStart => exact ⟨0, Nat.zero_le _, rfl, Lib.hid ⟨HY.out, by rw [lessN_zero]; exact SY.out, G2Y.out, G3Y.out⟩⟩
    case round =>
      obtain ⟨n, hn1, rfl, HH⟩ := hrel
      clear HY SY G2Y G3Y k2y
      by_cases hlt : n < tips
      · have hlti : ((n : Int) < (tips : Int)) := by omega
        have HH1 := Lib.hid HH.out.1
        have HH2 := Lib.hid HH.out.2.1
        have HH3 := Lib.hid HH.out.2.2.1
        have HH4 := Lib.hid HH.out.2.2.2
        clear HH
        have HL := HB1.out n (by omega)
        have hy := lessN_succ j.t.tip j.f.tipw n
        obtain ⟨x, hx⟩ : ∃ x, lessN j.t.tip j.f.tipw n = x := ⟨_, rfl⟩
        rw [hx] at HL hy HH2
        obtain ⟨y, hy9⟩ : ∃ y, lessR x j.f.tipw = y := ⟨_, rfl⟩
        rw [hy9] at HL hy
        have HY := Lib.hid hy
        have HLL := Lib.hid HL
        clear hy hy9 hx HL
        have kss : ∀ j', wr.cell? ⟨s1, j', none⟩ = #[Value.int IntKind.i64 (Tng.mk p x j.t.root).pitch.mn, Value.int IntKind.i64 (Tng.mk p x j.t.root).pitch.mx, Value.int IntKind.i64 (Tng.mk p x j.t.root).tip.mn, Value.int IntKind.i64 (Tng.mk p x j.t.root).tip.mx, Value.int IntKind.i64 (Tng.mk p x j.t.root).root.mn, Value.int IntKind.i64 (Tng.mk p x j.t.root).root.mx, Value.int IntKind.i64 j.f.up.mn, Value.int IntKind.i64 j.f.up.mx, Value.int IntKind.i64 j.f.down.mn, Value.int IntKind.i64 j.f.down.mx, Value.int IntKind.i64 j.f.tipw.mn, Value.int IntKind.i64 j.f.tipw.mx, Value.int IntKind.i64 j.f.rootw.mn, Value.int IntKind.i64 j.f.rootw.mx, Value.int IntKind.i64 j.f.least][j']? := fun j' => cell_of_row _ _ j' _ _ _ HH2.out
        have ls1 := (Array.getElem?_eq_some_iff.1 HH2.out).1
        have HB := Lib.hid (Below.refl wr.heap.size wr)
        go_wp2_with (first
          | (go_at_call 110; refine (HLL.out _).mono ?_; rintro e_ w11 ⟨rfl, hb_⟩; have HB_ := Lib.hid (bl_then2 (by (repeat (with_reducible first | exact HB.out | apply bl_alloc2 | apply bl_drew2 | apply bl_drewN2))) hb_); clear HB hb_; (try clear hq); have HB := HB_; clear HB_; have hq := CB.of HB.out)
          | ((with_reducible refine st_gate 26 rfl ?_); refine wpList_store_blk rfl 26 _ _ rfl s1 2 [.int .i64 y.mn, .int .i64 y.mx] rfl rfl 130 _ #[Value.int IntKind.i64 (Tng.mk p y j.t.root).pitch.mn, Value.int IntKind.i64 (Tng.mk p y j.t.root).pitch.mx, Value.int IntKind.i64 (Tng.mk p y j.t.root).tip.mn, Value.int IntKind.i64 (Tng.mk p y j.t.root).tip.mx, Value.int IntKind.i64 (Tng.mk p y j.t.root).root.mn, Value.int IntKind.i64 (Tng.mk p y j.t.root).root.mx, Value.int IntKind.i64 j.f.up.mn, Value.int IntKind.i64 j.f.up.mx, Value.int IntKind.i64 j.f.down.mn, Value.int IntKind.i64 j.f.down.mx, Value.int IntKind.i64 j.f.tipw.mn, Value.int IntKind.i64 j.f.tipw.mx, Value.int IntKind.i64 j.f.rootw.mn, Value.int IntKind.i64 j.f.rootw.mx, Value.int IntKind.i64 j.f.least] ((HB.out.block _ ls1).trans HH2.out) size26g (by simp) (by simp [Value.oneCell']) (by simp) (fun w12 hg_w12 hw_w12 => ?_)))
        refine ⟨⟨n + 1, by omega, by simp, Lib.hid ⟨hw_w12.below (bl_then HH1.out HB.out) bs1w, by rw [HY.out]; exact hg_w12, (hw_w12.block _ n21).trans ((HB.out.block _ (Array.getElem?_eq_some_iff.1 HH3.out).1).trans HH3.out), (hw_w12.block _ n31).trans ((HB.out.block _ (Array.getElem?_eq_some_iff.1 HH4.out).1).trans HH4.out)⟩⟩, ?_⟩
        simp [intOf]; omega
      · have hlti : ¬ ((n : Int) < (tips : Int)) := by omega
        obtain rfl : tips = n := by omega
        obtain ⟨xt, hxt⟩ : ∃ xt, lessN j.t.tip j.f.tipw tips = xt := ⟨_, rfl⟩
        rw [hxt] at HH
        have HXT := Lib.hid hxt
        clear hxt
        have k2y : ∀ j', wr.cell? ⟨g2, j', none⟩ = #[Value.int .i64 q.mn, Value.int .i64 q.mx, Value.int .i64 tips, Value.int .i64 ((roots : Int) + 1), Value.int .i64 L][j']? := fun j' => cell_of_row _ _ j' _ _ _ HH.out.2.2.1
        go_upto_block 2 with (fail)
        go_wp2_with fail
        go_loopw [58] (fun i wr => ∃ n : Nat, n ≤ roots + 1 ∧ i = .int .i64 n ∧ Hid (Below w.heap.size w wr ∧ wr.heap[s1]? = some (.cells #[Value.int IntKind.i64 (Tng.mk p xt (lessN j.t.root j.f.rootw n)).pitch.mn, Value.int IntKind.i64 (Tng.mk p xt (lessN j.t.root j.f.rootw n)).pitch.mx, Value.int IntKind.i64 (Tng.mk p xt (lessN j.t.root j.f.rootw n)).tip.mn, Value.int IntKind.i64 (Tng.mk p xt (lessN j.t.root j.f.rootw n)).tip.mx, Value.int IntKind.i64 (Tng.mk p xt (lessN j.t.root j.f.rootw n)).root.mn, Value.int IntKind.i64 (Tng.mk p xt (lessN j.t.root j.f.rootw n)).root.mx, Value.int IntKind.i64 j.f.up.mn, Value.int IntKind.i64 j.f.up.mx, Value.int IntKind.i64 j.f.down.mn, Value.int IntKind.i64 j.f.down.mx, Value.int IntKind.i64 j.f.tipw.mn, Value.int IntKind.i64 j.f.tipw.mx, Value.int IntKind.i64 j.f.rootw.mn, Value.int IntKind.i64 j.f.rootw.mx, Value.int IntKind.i64 j.f.least] 130 (0, 0)) ∧ wr.heap[g2]? = some (.cells #[Value.int .i64 q.mn, Value.int .i64 q.mx, Value.int .i64 tips, Value.int .i64 ((roots : Int) + 1), Value.int .i64 L] 111 (0, 0)) ∧ wr.heap[g3]? = some (.cells #[.int .i64 0, .int .i64 0, .int .i64 0, .int .i64 0, .int .i64 0] 111 (0, 0))))
          (fun i _ => roots + 1 - (intOf i).toNat)
        case atStart => exact ⟨0, Nat.zero_le _, rfl, Lib.hid ⟨HH.out.1, by rw [lessN_zero]; exact HH.out.2.1, HH.out.2.2.1, HH.out.2.2.2⟩⟩
        case round =>
          clear HH k2y hn1 hlt hlti
          obtain ⟨n, hn1, rfl, HH⟩ := hrel
          by_cases hlt : n < roots + 1
          · have hlti : ((n : Int) < (roots : Int) + 1) := by omega
            have HH1 := Lib.hid HH.out.1
            have HH2 := Lib.hid HH.out.2.1
            have HH3 := Lib.hid HH.out.2.2.1
            have HH4 := Lib.hid HH.out.2.2.2
            clear HH
            have HL := HB2.out n (by omega)
            have hy := lessN_succ j.t.root j.f.rootw n
            obtain ⟨x, hx⟩ : ∃ x, lessN j.t.root j.f.rootw n = x := ⟨_, rfl⟩
            rw [hx] at HL hy HH2
            obtain ⟨y, hy9⟩ : ∃ y, lessR x j.f.rootw = y := ⟨_, rfl⟩
            rw [hy9] at HL hy
            have HY := Lib.hid hy
            have HLL := Lib.hid HL
            clear hy hy9 hx HL
            have kss : ∀ j', wr.cell? ⟨s1, j', none⟩ = #[Value.int IntKind.i64 (Tng.mk p xt x).pitch.mn, Value.int IntKind.i64 (Tng.mk p xt x).pitch.mx, Value.int IntKind.i64 (Tng.mk p xt x).tip.mn, Value.int IntKind.i64 (Tng.mk p xt x).tip.mx, Value.int IntKind.i64 (Tng.mk p xt x).root.mn, Value.int IntKind.i64 (Tng.mk p xt x).root.mx, Value.int IntKind.i64 j.f.up.mn, Value.int IntKind.i64 j.f.up.mx, Value.int IntKind.i64 j.f.down.mn, Value.int IntKind.i64 j.f.down.mx, Value.int IntKind.i64 j.f.tipw.mn, Value.int IntKind.i64 j.f.tipw.mx, Value.int IntKind.i64 j.f.rootw.mn, Value.int IntKind.i64 j.f.rootw.mx, Value.int IntKind.i64 j.f.least][j']? := fun j' => cell_of_row _ _ j' _ _ _ HH2.out
            have ls1 := (Array.getElem?_eq_some_iff.1 HH2.out).1
            have HB := Lib.hid (Below.refl wr.heap.size wr)
            go_wp2_with (first
              | (go_at_call 110; refine (HLL.out _).mono ?_; rintro e_ w11 ⟨rfl, hb_⟩; have HB_ := Lib.hid (bl_then2 (by (repeat (with_reducible first | exact HB.out | apply bl_alloc2 | apply bl_drew2 | apply bl_drewN2))) hb_); clear HB hb_; (try clear hq); have HB := HB_; clear HB_; have hq := CB.of HB.out)
              | ((with_reducible refine st_gate 26 rfl ?_); refine wpList_store_blk rfl 26 _ _ rfl s1 4 [.int .i64 y.mn, .int .i64 y.mx] rfl rfl 130 _ #[Value.int IntKind.i64 (Tng.mk p xt y).pitch.mn, Value.int IntKind.i64 (Tng.mk p xt y).pitch.mx, Value.int IntKind.i64 (Tng.mk p xt y).tip.mn, Value.int IntKind.i64 (Tng.mk p xt y).tip.mx, Value.int IntKind.i64 (Tng.mk p xt y).root.mn, Value.int IntKind.i64 (Tng.mk p xt y).root.mx, Value.int IntKind.i64 j.f.up.mn, Value.int IntKind.i64 j.f.up.mx, Value.int IntKind.i64 j.f.down.mn, Value.int IntKind.i64 j.f.down.mx, Value.int IntKind.i64 j.f.tipw.mn, Value.int IntKind.i64 j.f.tipw.mx, Value.int IntKind.i64 j.f.rootw.mn, Value.int IntKind.i64 j.f.rootw.mx, Value.int IntKind.i64 j.f.least] ((HB.out.block _ ls1).trans HH2.out) size26g (by simp) (by simp [Value.oneCell']) (by simp) (fun w12 hg_w12 hw_w12 => ?_)))
            refine ⟨⟨n + 1, by omega, by simp, Lib.hid ⟨hw_w12.below (bl_then HH1.out HB.out) bs1w, by rw [HY.out]; exact hg_w12, (hw_w12.block _ n21).trans ((HB.out.block _ (Array.getElem?_eq_some_iff.1 HH3.out).1).trans HH3.out), (hw_w12.block _ n31).trans ((HB.out.block _ (Array.getElem?_eq_some_iff.1 HH4.out).1).trans HH4.out)⟩⟩, ?_⟩
            simp [intOf]; omega
          · have hlti : ¬ ((n : Int) < (roots : Int) + 1) := by omega
            obtain rfl : n = roots + 1 := by omega
            obtain ⟨xr, hxr⟩ : ∃ xr, lessN j.t.root j.f.rootw (roots + 1) = xr := ⟨_, rfl⟩
            rw [hxr] at HH
            have HXR := Lib.hid hxr
            clear hxr
            have HS9 := Lib.hid (show ∀ w' : World, (w'.heap[s1]? = wr.heap[s1]?) → (w'.heap[g2]? = wr.heap[g2]?) → (∀ j', w'.cell? ⟨g2, j', none⟩ = #[Value.int .i64 q.mn, Value.int .i64 q.mx, Value.int .i64 tips, Value.int .i64 ((roots : Int) + 1), Value.int .i64 L][j']?) ∧ (∀ j', w'.cell? ⟨s1, j', none⟩ = #[Value.int IntKind.i64 (Tng.mk p xt xr).pitch.mn, Value.int IntKind.i64 (Tng.mk p xt xr).pitch.mx, Value.int IntKind.i64 (Tng.mk p xt xr).tip.mn, Value.int IntKind.i64 (Tng.mk p xt xr).tip.mx, Value.int IntKind.i64 (Tng.mk p xt xr).root.mn, Value.int IntKind.i64 (Tng.mk p xt xr).root.mx, Value.int IntKind.i64 j.f.up.mn, Value.int IntKind.i64 j.f.up.mx, Value.int IntKind.i64 j.f.down.mn, Value.int IntKind.i64 j.f.down.mx, Value.int IntKind.i64 j.f.tipw.mn, Value.int IntKind.i64 j.f.tipw.mx, Value.int IntKind.i64 j.f.rootw.mn, Value.int IntKind.i64 j.f.rootw.mx, Value.int IntKind.i64 j.f.least][j']?) from
              fun w' h1 h2 => ⟨fun j' => cell_of_row _ _ j' _ _ _ (h2.trans HH.out.2.2.1), fun j' => cell_of_row _ _ j' _ _ _ (h1.trans HH.out.2.1)⟩)
            have l1 := (Array.getElem?_eq_some_iff.1 HH.out.2.1).1
            have l2 := (Array.getElem?_eq_some_iff.1 HH.out.2.2.1).1
            have l3 := (Array.getElem?_eq_some_iff.1 HH.out.2.2.2).1
            obtain ⟨sp, hsp⟩ : ∃ sp, spoilR xt xr j.f.least = sp := ⟨_, rfl⟩
            have hSP := spoiled_calls (Tng.mk p xt xr) j.f
            rw [hsp] at hSP
            have HSP := Lib.hid hSP
            have HSS := Lib.hid hsp
            clear hsp hSP
            have HB := Lib.hid (Below.refl wr.heap.size wr)
            go_upto_region 16 with (fail)
            refine wp_region_peel (S := fun w' => (∀ j', w'.cell? ⟨g2, j', none⟩ = #[Value.int .i64 q.mn, Value.int .i64 q.mx, Value.int .i64 tips, Value.int .i64 ((roots : Int) + 1), Value.int .i64 L][j']?) ∧ (∀ j', w'.cell? ⟨s1, j', none⟩ = #[Value.int IntKind.i64 (Tng.mk p xt xr).pitch.mn, Value.int IntKind.i64 (Tng.mk p xt xr).pitch.mx, Value.int IntKind.i64 (Tng.mk p xt xr).tip.mn, Value.int IntKind.i64 (Tng.mk p xt xr).tip.mx, Value.int IntKind.i64 (Tng.mk p xt xr).root.mn, Value.int IntKind.i64 (Tng.mk p xt xr).root.mx, Value.int IntKind.i64 j.f.up.mn, Value.int IntKind.i64 j.f.up.mx, Value.int IntKind.i64 j.f.down.mn, Value.int IntKind.i64 j.f.down.mx, Value.int IntKind.i64 j.f.tipw.mn, Value.int IntKind.i64 j.f.tipw.mx, Value.int IntKind.i64 j.f.rootw.mn, Value.int IntKind.i64 j.f.rootw.mx, Value.int IntKind.i64 j.f.least][j']?)) 5 _ _ (by kernel_rfl) rfl rfl rfl (by kernel_rfl) (by kernel_rfl) (HS9.out _ rfl rfl) (fun hHeld => ?_)
            simp only [Act.put, stillOf, List.set_cons_succ, List.set_cons_zero, List.setIfInBounds_toArray, List.getElem_toArray, List.getElem_cons_succ, List.getElem_cons_zero]
            refine wpAnyH_take (i := 0) (v := ?_) rfl (by kernel_rfl) (by kernel_rfl) (by kernel_rfl) (fun _ _ _ h => h) (Or.inl ⟨by rfl, ?_⟩) (by assumption) ?_; rotate_left 1; (focus ((intro w_ hS_; (try dsimp only at hS_); go_simp; first | done | with_reducible rfl))); simp only [Act.put, stillOf, List.set_cons_succ, List.set_cons_zero, List.setIfInBounds_toArray, List.getElem_toArray, List.getElem_cons_succ, List.getElem_cons_zero]
            refine wpAnyH_take (i := 1) (v := ?_) rfl (by kernel_rfl) (by kernel_rfl) (by kernel_rfl) (fun _ _ _ h => h) (Or.inl ⟨by rfl, ?_⟩) (by assumption) ?_; rotate_left 1; (focus ((intro w_ hS_; (try dsimp only at hS_); go_simp; first | done | with_reducible rfl))); simp only [Act.put, stillOf, List.set_cons_succ, List.set_cons_zero, List.setIfInBounds_toArray, List.getElem_toArray, List.getElem_cons_succ, List.getElem_cons_zero]
            refine wpAnyH_ready (rs := [2]) (by kernel_rfl) (by simp) (AllReadyH.cons rfl (fun K hK => ?_) AllReadyH.nil)
            go_simp
            (go_at_call 111; refine (HSP.out _).mono ?_; rintro e_ w13 ⟨rfl, hb_⟩; have HB_ := Lib.hid (bl_then2 (by (repeat (with_reducible first | exact HB.out | apply bl_alloc2 | apply bl_drew2 | apply bl_drewN2))) hb_); clear HB hb_; (try clear hq); have HB := HB_; clear HB_; have hq := CB.of HB.out)
            refine hK.out _ _ (HS9.out _ (HB.out.block _ l1) (HB.out.block _ l2)) (fun hHeld => ?_)
            clear hK K
            refine wpAnyH_take (i := 3) (v := ?_) rfl (by kernel_rfl) (by kernel_rfl) (by kernel_rfl) (fun _ _ _ h => h) (Or.inl ⟨by rfl, ?_⟩) (by assumption) ?_; rotate_left 1; (focus ((intro w_ hS_; (try dsimp only at hS_); go_simp; first | done | with_reducible rfl))); simp only [Act.put, stillOf, List.set_cons_succ, List.set_cons_zero, List.setIfInBounds_toArray, List.getElem_toArray, List.getElem_cons_succ, List.getElem_cons_zero]
            refine wpAnyH_ready (rs := [4]) (by kernel_rfl) (by simp) (AllReadyH.cons rfl (fun K hK => ?_) AllReadyH.nil)
            refine step_store_blk rfl 111 _ _ rfl g3 0 [.int .i64 q.mn, .int .i64 q.mx, .int .i64 tips, .int .i64 ((roots : Int) + 1), .int .i64 L] rfl rfl 111 _ #[Value.int .i64 q.mn, Value.int .i64 q.mx, Value.int .i64 tips, Value.int .i64 ((roots : Int) + 1), Value.int .i64 L] ((HB.out.block _ l3).trans HH.out.2.2.2) size111 (by simp) (by simp [Value.oneCell']) (by simp) (fun w14 hg14 hw14 => ?_)
            refine hK.out _ _ (HS9.out _ ((hw14.block _ n13).trans (HB.out.block _ l1)) ((hw14.block _ n23).trans (HB.out.block _ l2))) (fun hHeld => ?_)
            clear hK K
            refine wpAnyH_take (i := 5) (v := ?_) rfl (by kernel_rfl) (by kernel_rfl) (by kernel_rfl) (fun _ _ _ h => h) (Or.inl ⟨by rfl, ?_⟩) (by assumption) ?_; rotate_left 1; (focus ((intro w_ hS_; (try dsimp only at hS_); go_simp; first | done | with_reducible rfl))); simp only [Act.put, stillOf, List.set_cons_succ, List.set_cons_zero, List.setIfInBounds_toArray, List.getElem_toArray, List.getElem_cons_succ, List.getElem_cons_zero]
            refine wpAnyH_done (by kernel_rfl) ?_ _
            unfold Peeled
            dsimp only
            go_simp
            go_wp2_with fail
            refine ret_row_tmpM rfl g3 111 _ _ rfl hg14 Try.underlying111 rfl size111 rfl ⟨?_, hw14.below (bl_then HH.out.1 HB.out) bg3⟩
            have e1 := HSS.out
            have e2 := HXT.out
            have e3 := HXR.out
            have e4 := HQ.out
            subst e4
            simp [soundR, e2, e3, e1]
            rw [Bool.eq_iff_iff]; simp

end Go.Proofs.Ytnclljamcfoolaa
namespace Go.Proofs.Ytnclljamcfoolaa
open Go.RowKit
set_option linter.unusedVariables false
set_option linter.unusedSimpArgs false

theorem eq26 (d : Nat) (a b c e : Int) (w : World) : (Op.equalIn (d + 1 + 1) 26 (.agg #[.int .i64 a, .int .i64 b]) (.agg #[.int .i64 c, .int .i64 e])).run Try.prog w = .ok (a == c && b == e) w := by
  have u3 := Try.underlying3
  have a3 := Try.isAgg3
  have z3 := Try.sizeOf3
  have hS : Try.prog.underlying 26 = some (.struct (Try.prog.fieldsOf 26)) := by kernel_rfl
  rw [run_equalIn_agg w (d + 1) 26 _ _ hS (by kernel_rfl)]
  simp only [Program.fieldsOf, Try.underlying26]
  go_simp
  by_cases h1 : a = c <;> by_cases h2 : b = e <;> simp [h1, h2]
theorem eq111 (p q : Rg) (t t' r r' l l' : Nat) (w : World) : (Op.equal 111 (knV p t r l) (knV q t' r' l')).run Try.prog w = .ok (decide (p = q ∧ t = t' ∧ r = r' ∧ l = l')) w := by
  have u3 := Try.underlying3
  have a3 := Try.isAgg3
  have z3 := Try.sizeOf3
  have u26 := Try.underlying26
  have a26 := Try.isAgg26
  have z26 := Try.sizeOf26
  have e26 := fun a b c e w => eq26 9997 a b c e w
  have hS : Try.prog.underlying 111 = some (.struct (Try.prog.fieldsOf 111)) := by kernel_rfl
  unfold Op.equal Op.maxDepth
  rw [show (10000 : Nat) = 9999 + 1 from rfl, run_equalIn_agg w 9999 111 _ _ hS (by kernel_rfl)]
  simp only [Program.fieldsOf, Try.underlying111]
  go_simp
  have hpq : p = q ↔ p.mn = q.mn ∧ p.mx = q.mx := by cases p; cases q; simp
  by_cases h1 : p.mn = q.mn <;> by_cases h2 : p.mx = q.mx <;> by_cases h3 : t = t' <;> by_cases h4 : r = r' <;> by_cases h5 : l = l' <;> simp [hpq, h1, h2, h3, h4, h5] <;> omega
theorem check3 (em : Bool) (d : Nat) (a : Int) (w : World) : (Instr.checkKey em (d + 1) 3 (.int .i64 a)).run Try.prog w = .ok () w := by
  have hr3 := fun w => run_underlying (P := Try.prog) Try.underlying3 w
  rw [Instr.checkKey]
  simp only [Sem.run_bind, hr3, Result.andThen_ok]
  go_simp
theorem check26 (em : Bool) (d : Nat) (a b : Int) (w : World) : (Instr.checkKey em (d + 1 + 1) 26 (.agg #[.int .i64 a, .int .i64 b])).run Try.prog w = .ok () w := by
  have u3 := Try.underlying3
  have a3 := Try.isAgg3
  have z3 := Try.sizeOf3
  have u26 := Try.underlying26
  have hr := fun w => run_underlying (P := Try.prog) Try.underlying26 w
  have hr3 := fun w => run_underlying (P := Try.prog) Try.underlying3 w
  simp only [Instr.checkKey, Sem.run_bind, hr, hr3, Result.andThen_ok]
  go_simp
theorem check111 (em : Bool) (p : Rg) (t r l : Nat) (w : World) : (Instr.checkKey em 10000 111 (knV p t r l)).run Try.prog w = .ok () w := by
  have a3 := Try.isAgg3
  have z3 := Try.sizeOf3
  have a26 := Try.isAgg26
  have z26 := Try.sizeOf26
  have hr := fun w => run_underlying (P := Try.prog) Try.underlying111 w
  have hr3 := fun w => run_underlying (P := Try.prog) Try.underlying3 w
  obtain ⟨d, hd⟩ : ∃ d, 9997 = d := ⟨_, rfl⟩
  rw [show (10000 : Nat) = 9997 + 1 + 1 + 1 from rfl, hd]
  have h26 := fun a b w => check26 em d a b w
  have h3 := fun a w => check3 em (d + 1) a w
  unfold knV
  rw [Instr.checkKey]
  simp only [Sem.run_bind, hr, hr3, Result.andThen_ok]
  go_simp

/-- an entry of the memo that is right -/
def Good (f : Rg → Nat → Nat → Nat → Bool) (e : MapEntry) : Prop := ∃ p t r l, e.key = knV p t r l ∧ e.val = .bool (f p t r l)
theorem findAsking_kn (f : Rg → Nat → Nat → Nat → Bool) (p : Rg) (t r l : Nat) (w : World) : ∀ (es : List MapEntry) (i : Nat), (∀ e ∈ es, Good f e) →
    ∃ o, (Instr.findAsking 111 (knV p t r l) es i).run Try.prog w = .ok o w ∧ (o = none ∨ ∃ k, o = some (i + k, .bool (f p t r l)) ∧ (es[k]?).map (·.key) = some (knV p t r l))
  | [], i, _ => ⟨none, rfl, .inl rfl⟩
  | e :: es, i, h => by
    obtain ⟨p', t', r', l', hk, hv⟩ := h e List.mem_cons_self
    obtain ⟨o, ho, hor⟩ := findAsking_kn f p t r l w es (i + 1) fun x hx => h x (List.mem_cons_of_mem _ hx)
    by_cases he : p = p' ∧ t = t' ∧ r = r' ∧ l = l'
    · obtain ⟨rfl, rfl, rfl, rfl⟩ := he
      refine ⟨some (i, .bool (f p t r l)), ?_, .inr ⟨0, rfl, by simp [hk]⟩⟩
      unfold Instr.findAsking
      rw [Sem.run_bind, hk, eq111]
      simp [Result.andThen, hv]
    · refine ⟨o, ?_, ?_⟩
      · unfold Instr.findAsking
        rw [Sem.run_bind, hk, eq111]
        simp only [Result.andThen, he, decide_false, Bool.false_eq_true, if_false]
        exact ho
      · rcases hor with rfl | ⟨k, rfl, hk2⟩
        · exact .inl rfl
        · exact .inr ⟨k + 1, by rw [show i + (k + 1) = i + 1 + k by omega], by simpa using hk2⟩
theorem findKey_kn (f : Rg → Nat → Nat → Nat → Bool) (p : Rg) (t r l : Nat) (w : World) (es : List MapEntry) (h : ∀ e ∈ es, Good f e) :
    ∃ o, (Instr.findKey 111 (knV p t r l) es).run Try.prog w = .ok o w ∧ (o = none ∨ ∃ k, o = some (k, .bool (f p t r l)) ∧ (es[k]?).map (·.key) = some (knV p t r l)) := by
  have hr := run_underlying (P := Try.prog) Try.underlying111 w
  cases es with
  | nil =>
    refine ⟨none, ?_, .inl rfl⟩
    unfold Instr.findKey
    rw [Sem.run_bind, hr]
    rfl
  | cons e es =>
    obtain ⟨p', t', r', l', hk, hv⟩ := h e List.mem_cons_self
    obtain ⟨o, ho, hor⟩ := findAsking_kn f p t r l w (e :: es) 0 h
    refine ⟨o, ?_, by simpa using hor⟩
    unfold Instr.findKey
    rw [Sem.run_bind, hr]
    simp only [Result.andThen, Instr.findNow, hk, knV, Instr.sameNow]
    exact ho
theorem run_getObj_mk {w : World} {b : Nat} {es : Array MapEntry} {clock : Nat} (hb : w.heap[b]? = some (.map es clock)) : (getObj b).run Try.prog w = .ok (.map es clock) w := by
  simp [getObj, Sem.run, hb]
theorem run_setObj_mk {w : World} {b : Nat} {es : Array MapEntry} {clock : Nat} (hb : w.heap[b]? = some (.map es clock)) (o' : Obj) : (setObj b o').run Try.prog w = .ok () (w.putObj b o') := by
  simp [setObj, Sem.run, hb, World.putObj]
theorem zero4 (w : World) : (zeroValue 4).run Try.prog w = .ok (.bool false) w := by
  simp [zeroValue, go_sem, Try.t4]
theorem lookup_kn (f : Rg → Nat → Nat → Nat → Bool) (p : Rg) (t r l : Nat) (w : World) (b : Nat) (es : Array MapEntry) (clock : Nat) (hb : w.heap[b]? = some (.map es clock)) (h : ∀ e ∈ es.toList, Good f e) :
    ∃ v ok, (Instr.lookup 143 (.map (some b)) (knV p t r l) true).run Try.prog w = .ok (.tuple #[.bool v, .bool ok]) w ∧ (ok = true → v = f p t r l) := by
  have hr := run_underlying (P := Try.prog) Try.underlying143 w
  obtain ⟨o, ho, hor⟩ := findKey_kn f p t r l w es.toList h
  unfold Instr.lookup
  rcases hor with rfl | ⟨k, rfl, -⟩
  · refine ⟨false, false, ?_, by simp⟩
    simp only [Sem.run_bind, hr, Result.andThen_ok]
    simp [go_sem, run_getObj_mk hb, check111, ho, zero4]
  · refine ⟨f p t r l, true, ?_, fun _ => rfl⟩
    simp only [Sem.run_bind, hr, Result.andThen_ok]
    simp [go_sem, run_getObj_mk hb, check111, ho, zero4]

theorem sameBits_kn (p : Rg) (t r l : Nat) : Instr.sameBits 10000 (knV p t r l) (knV p t r l) = true := by
  rw [show (10000 : Nat) = 9998 + 1 + 1 from rfl]
  unfold knV Instr.sameBits
  simp [Instr.sameBits]
theorem update_kn (f : Rg → Nat → Nat → Nat → Bool) (p : Rg) (t r l : Nat) (w : World) (b : Nat) (es : Array MapEntry) (clock : Nat) (hb : w.heap[b]? = some (.map es clock)) (h : ∀ e ∈ es.toList, Good f e) :
    ∃ es' clock', (Instr.mapUpdate 143 (.map (some b)) (knV p t r l) (.bool (f p t r l))).run Try.prog w = .ok () (w.putObj b (.map es' clock')) ∧ ∀ e ∈ es'.toList, Good f e := by
  have hr := run_underlying (P := Try.prog) Try.underlying143 w
  obtain ⟨o, ho, hor⟩ := findKey_kn f p t r l w es.toList h
  rcases hor with rfl | ⟨k, rfl, hk⟩
  · refine ⟨es.push { key := knV p t r l, val := .bool (f p t r l), born := clock }, clock + 1, ?_, ?_⟩
    · unfold Instr.mapUpdate
      simp only [Sem.run_bind, hr, Result.andThen_ok]
      simp [go_sem, run_getObj_mk hb, check111, ho, run_setObj_mk hb]
    · intro e he
      simp only [Array.toList_push, List.mem_append, List.mem_singleton] at he
      rcases he with he | rfl
      · exact h e he
      · exact ⟨p, t, r, l, rfl, rfl⟩
  · have hk' : ((es[k]?).map (·.key)).getD (knV p t r l) = knV p t r l := by
      have : (es[k]?).map (·.key) = some (knV p t r l) := by simpa using hk
      rw [this]; rfl
    refine ⟨es.modify k fun e => { e with key := knV p t r l, val := .bool (f p t r l) }, clock, ?_, ?_⟩
    · unfold Instr.mapUpdate
      simp only [Sem.run_bind, hr, Result.andThen_ok]
      have hks : (Instr.keyThatStays (knV p t r l) (knV p t r l)).run Try.prog w = .ok (knV p t r l) w := by
        unfold Instr.keyThatStays
        rw [sameBits_kn]
        rfl
      simp [go_sem, run_getObj_mk hb, check111, ho, run_setObj_mk hb, hk', hks]
    · intro e he
      obtain ⟨i, hi, rfl⟩ := List.mem_iff_getElem.1 he
      simp only [Array.getElem_toList, Array.getElem_modify]
      split
      · exact ⟨p, t, r, l, rfl, rfl⟩
      · exact h _ (by simp)

end Go.Proofs.Ytnclljamcfoolaa
