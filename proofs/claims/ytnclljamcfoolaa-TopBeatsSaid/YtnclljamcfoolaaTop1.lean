/- Walk of musettetop.TopBeats: it returns true. -/
import Derived.Test.YtnclljamcfoolaaAwake
import Derived.Test.YtnclljamcfoolaaRef5
import Derived.Test.YtnclljamcfoolaaRef2
namespace Go.Proofs.Ytnclljamcfoolaa
open Go.RowKit
set_option linter.unusedVariables false
set_option linter.unusedSimpArgs false

theorem two_boxes (w : World) (c d : Array Value) (t : TypeId) : Below w.heap.size w ((w.alloc (.cells c t)).alloc (.cells d t)).drew ∧ w.heap.size < ((w.alloc (.cells c t)).alloc (.cells d t)).drew.heap.size ∧ w.heap.size + 1 < ((w.alloc (.cells c t)).alloc (.cells d t)).drew.heap.size ∧
    (∀ j, ((w.alloc (.cells c t)).alloc (.cells d t)).drew.cell? ⟨w.heap.size, j, none⟩ = c[j]?) ∧ (∀ j, ((w.alloc (.cells c t)).alloc (.cells d t)).drew.cell? ⟨w.heap.size + 1, j, none⟩ = d[j]?) := by
  obtain ⟨hB, -, -, k1, k2, -, -, l1, l2, -⟩ := gen2 w c t d t rfl rfl rfl
  exact ⟨bl_drew hB, l1, l2, k1, k2⟩

theorem row_two {W : World} {g : Nat} (x y : Rg) (h : ∀ j, W.cell? ⟨g, j, none⟩ = #[Value.int .i64 x.mn, Value.int .i64 x.mx, Value.int .i64 y.mn, Value.int .i64 y.mx][j]?) : Row Rg.cs 2 W (some ⟨g, 0, none⟩) [x, y] := by
  refine .inr ⟨g, 0, rfl, fun i z hz j v hv => ?_⟩
  rw [h]
  have hj : j < 2 := by
    rcases Nat.lt_or_ge j 2 with h | h
    · exact h
    · rw [List.getElem?_eq_none (by simpa [Rg.cs] using h)] at hv; cases hv
  have hi : i < 2 := by
    rcases Nat.lt_or_ge i 2 with h | h
    · exact h
    · rw [List.getElem?_eq_none (by simpa using h)] at hz; cases hz
  obtain rfl | rfl : i = 0 ∨ i = 1 := by omega
  all_goals
    simp only [List.getElem?_cons_zero, List.getElem?_cons_succ, Option.some.injEq] at hz
    subst hz
    obtain rfl | rfl : j = 0 ∨ j = 1 := by omega
    all_goals simpa [Rg.cs] using hv

theorem max3_run {P : Program} (w : World) (ts : Array TypeId) (t : TypeId) (x y z : Int) : (Builtin.max_ ts t #[.int .i64 x, .int .i64 y, .int .i64 z]).run P w = .ok (.int .i64 (max (max x y) z)) w := by
  have e1 : max (max x y) z = if z > (if y > x then y else x) then z else (if y > x then y else x) := by (repeat' split) <;> omega
  rw [e1]
  simp [Builtin.max_, Builtin.max2]
theorem mul_secs {L s : Int} (hL : 0 ≤ L ∧ L ≤ 60) (hs : 1 ≤ s ∧ s ≤ 20) : 0 ≤ L * s ∧ L * s ≤ 1200 := by
  constructor
  · exact Int.mul_nonneg hL.1 (by omega)
  · have := Int.mul_le_mul hL.2 hs.2 (by omega) (by omega); omega
theorem wrap_secs {L s : Int} (hL : 0 ≤ L ∧ L ≤ 60) (hs : 1 ≤ s ∧ s ≤ 20) : wrap64 (L * s) = L * s := by
  have h := mul_secs hL hs
  generalize L * s = m at h ⊢
  unfold wrap64; omega
theorem quo_secs {L s : Int} (hL : 0 ≤ L ∧ L ≤ 60) (hs : 1 ≤ s ∧ s ≤ 20) : wrap64 ((wrap64 (L * s)).tdiv 100) = L * s / 100 := by
  rw [wrap_secs hL hs, Int.tdiv_eq_ediv_of_nonneg (mul_secs hL hs).1]
  have h := mul_secs hL hs
  generalize L * s = m at h ⊢
  unfold wrap64; omega
theorem two_check (x y : Rg) (er : Int) (he : earErr ⟨0, [x, y], []⟩ = er) (w : World) (b c : Nat) (h1 : Row Rg.cs 2 w (some ⟨b, 0, none⟩) [x, y]) :
    Calls Try.prog 9 #[.agg #[.int .i64 0, .slice (some ⟨b, 0, none⟩) 2 c, .slice none 0 0]] w fun ed w' => ed = .returned (.int .i64 er) ∧ Below w.heap.size w w' := by
  have h := ref2Check_calls ⟨0, [x, y], []⟩ (some ⟨b, 0, none⟩) none c 0 w h1 (.inl rfl) (by simp) (by simp)
  rw [he] at h
  exact h
theorem two_beats (x y : Rg) (s : Int) (hs : 1 ≤ s ∧ s ≤ 20) (he : earErr ⟨0, [x, y], []⟩ = 0) (D E : Int) (hD : y.mn - x.mx = D) (hE : y.mx - x.mn = E) (w : World) (b c : Nat) (h1 : Row Rg.cs 2 w (some ⟨b, 0, none⟩) [x, y]) (hb : b < w.heap.size) :
    Calls Try.prog 10 #[.agg #[.int .i64 0, .slice (some ⟨b, 0, none⟩) 2 c, .slice none 0 0], .int .i64 0, .int .i64 1, .int .i64 s] w fun ed w' => ed = .returned (.tuple #[.agg #[.int .i64 (max (max 0 D) (-E) * s / 100), .int .i64 (max E (-D) * s / 100)], .int .i64 0]) ∧ Below w.heap.size w w' := by
  have hlen : (allTruths (fun _ => true) ⟨0, [x, y], []⟩).length ≤ 1000000 := Nat.le_trans (allTruths_len _ he) (by decide)
  have h := Beats01 ⟨0, [x, y], []⟩ b 0 c none 0 s hs he rfl (by simp) (by simp) (truths2_ok (x := x) (y := y) rfl he) hlen w h1 hb
  obtain ⟨e1, e2⟩ := beats_law ⟨0, [x, y], []⟩ x y rfl he s hs _ (List.getElem_mem (allTruths_pos he))
  rw [e1, e2, hD, hE] at h
  exact h

theorem two_higher (x y : Rg) (he : earErr ⟨0, [x, y], []⟩ = 0) (D E : Int) (hD : y.mn - x.mx = D) (hE : y.mx - x.mn = E) (w : World) (b c : Nat) (h1 : Row Rg.cs 2 w (some ⟨b, 0, none⟩) [x, y]) (hb : b < w.heap.size) :
    Calls Try.prog 11 #[.agg #[.int .i64 0, .slice (some ⟨b, 0, none⟩) 2 c, .slice none 0 0], .int .i64 1, .int .i64 0] w fun ed w' => ∃ v : Int, ed = .returned (.tuple #[.int .i64 v, .int .i64 0]) ∧ Hid ((v = 1 ↔ 0 < D) ∧ (v = 2 ↔ E ≤ 0)) ∧ Below w.heap.size w w' := by
  have hlen : (allTruths (fun _ => true) ⟨0, [x, y], []⟩).length ≤ 1000000 := Nat.le_trans (allTruths_len _ he) (by decide)
  refine (Higher10 ⟨0, [x, y], []⟩ b 0 c none 0 he rfl (by simp) (by simp) hlen w h1 hb).mono fun e w' ⟨h, hb⟩ => ⟨_, h, ?_, hb⟩
  have h2 := higher_law ⟨0, [x, y], []⟩ x y rfl he
  rw [hD, hE] at h2
  exact Lib.hid h2

set_option maxRecDepth 100000 in
set_option maxHeartbeats 20000000 in
theorem topBeats_calls (b : Box) (A1 A2 : Option Addr) (c1 c2 : Nat) (base secs : Int) (w : World) (h1 : Row Snd.cs 4 w A1 b.lows) (h2 : Row Snd.cs 4 w A2 b.highs) (hm1 : b.lows.length ≤ 1000000000000000) (hm2 : b.highs.length ≤ 1000000000000000) :
    Calls Try.prog 3 #[b.v A1 c1 A2 c2, .int .i64 base, .int .i64 secs] w fun e w' => e = .returned (.bool true) ∧ Below w.heap.size w w' := by
  have HC := Lib.hid (ref5Check_calls b A1 A2 c1 c2)
  unfold Box.v at *
  go_enter Try.func3, Try.ntmps3
  go_upto_region 1 with (fail)
  generalize hW : w.alloc _ = W
  generalize h1_ : w.heap.size = g1
  obtain ⟨hB0_, Hg1, kg1, fg1, lg1, bg1⟩ := gen1 w _ _ hW h1_
  clear hW h1_
  have H0W := Lib.hid hB0_
  clear hB0_
  have HHg1 := Lib.hid Hg1
  clear Hg1
  have HB := Lib.hid (Below.refl W.heap.size W)
  have HR1 := Lib.hid (h1.below H0W.out)
  have HR2 := Lib.hid (h2.below H0W.out)
  clear h1 h2
  by_cases hbad : ¬ boxErr b = 0 ∨ base < 1 ∨ 100000 < base ∨ secs < 1 ∨ 20 < secs
  · have hA := Lib.hid (beatsAwake_calls)
    go_upto_if 38 with (first
      | ((with_reducible refine ld_gate 30 rfl ?_); refine wpList_load_row rfl 30 _ rfl g1 rfl 30 _ (0, 0) _ ((HB.out.block _ lg1).trans HHg1.out) Try.underlying30 rfl size30 ?_)
      | (go_at_call 6; refine (HC.out _ (HR1.out.below HB.out) (HR2.out.below HB.out) hm1 hm2).mono ?_; rintro e_ w1 ⟨rfl, hb_⟩; have HB_ := Lib.hid (bl_then2 (by (repeat (with_reducible first | exact HB.out | apply bl_alloc2 | apply bl_drew2 | apply bl_drewN2))) hb_); clear HB hb_; (try clear hq); have HB := HB_; clear HB_; have hq := CB.of HB.out))
    all_goals go_wp2_with (go_at_call 7; refine (hA.out _).mono ?_; rintro e_ w2 ⟨rfl, hb_⟩; have HB_ := Lib.hid (bl_then2 (by (repeat (with_reducible first | exact HB.out | apply bl_alloc2 | apply bl_drew2 | apply bl_drewN2))) hb_); clear HB hb_; (try clear hq); have HB := HB_; clear HB_; have hq := CB.of HB.out)
    all_goals (first | (go_ret; exact ⟨rfl, by (repeat (first | exact bl_then H0W.out HB.out | exact H0W.out | exact HB.out | exact Below.refl _ _ | refine bl_set ?_ (by assumption) _ | refine bl_alloc ?_ _ | refine bl_drew ?_ | refine bl_drewN ?_ _))⟩) | go_outline)
  have hb0 : boxErr b = 0 := by omega
  have hba : 1 ≤ base ∧ base ≤ 100000 := by omega
  have hse : 1 ≤ secs ∧ secs ≤ 20 := by omega
  clear hbad
  rw [hb0] at HC
  go_upto_block 0 with (first
      | ((with_reducible refine ld_gate 30 rfl ?_); refine wpList_load_row rfl 30 _ rfl g1 rfl 30 _ (0, 0) _ ((HB.out.block _ lg1).trans HHg1.out) Try.underlying30 rfl size30 ?_)
      | (go_at_call 6; refine (HC.out _ (HR1.out.below HB.out) (HR2.out.below HB.out) hm1 hm2).mono ?_; rintro e_ w1 ⟨rfl, hb_⟩; have HB_ := Lib.hid (bl_then2 (by (repeat (with_reducible first | exact HB.out | apply bl_alloc2 | apply bl_drew2 | apply bl_drewN2))) hb_); clear HB hb_; (try clear hq); have HB := HB_; clear HB_; have hq := CB.of HB.out))
  have hA := Lib.hid (beatsAwake_calls)
  have t1 : decide (base < 1) = false := by simp; omega
  have t2 : decide (100000 < base) = false := by simp; omega
  have t3 : decide (secs < 1) = false := by simp; omega
  have t4 : decide (20 < secs) = false := by simp; omega
  simp only [t1, t2, t3, t4, Bool.or_false]
  clear HC t1 t2 t3 t4
  obtain ⟨P, hP⟩ : ∃ P : Nat, b.law.press = P := ⟨b.law.press.toNat, by have := lawErr_zero (boxErr_zero hb0).1; omega⟩
  have HP := Lib.hid hP
  clear hP
  go_wp2_with fail
  go_loopw [7] (fun i wr => ∃ k : Nat, k ≤ b.lows.length ∧ i = .int .i64 k ∧ Below W.heap.size W wr) (fun i _ => b.lows.length - (intOf i).toNat)
  case atStart => exact ⟨0, Nat.zero_le _, rfl, HB.out⟩
  case round =>
    obtain ⟨i, hi, rfl, hb⟩ := hrel
    clear HB hq
    have HB := Lib.hid hb
    have hq := CB.of HB.out
    clear hb
    by_cases hlt : i < b.lows.length
    · have hlti : ((i : Int) < (b.lows.length : Int)) := by omega
      go_upto_block 2 with (fail)
      go_wp2_with fail
      go_loopw [8] (fun i wr => ∃ k : Nat, k ≤ b.highs.length ∧ i = .int .i64 k ∧ Below W.heap.size W wr) (fun i _ => b.highs.length - (intOf i).toNat)
      case atStart => exact ⟨0, Nat.zero_le _, rfl, HB.out⟩
      case round =>
        obtain ⟨k, hk, rfl, hb⟩ := hrel
        clear HB hq
        have HB := Lib.hid hb
        have hq := CB.of HB.out
        clear hb
        by_cases hlk : k < b.highs.length
        · have hlki : ((k : Int) < (b.highs.length : Int)) := by omega
          have hBt := Lib.hid (Beat_calls b A1 A2 c1 c2 i k hlt hlk P HP.out hb0)
          go_upto_region 10 with (first
            | ((with_reducible refine ld_gate 30 rfl ?_); refine wpList_load_row rfl 30 _ rfl g1 rfl 30 _ (0, 0) _ ((HB.out.block _ lg1).trans HHg1.out) Try.underlying30 rfl size30 ?_)
            | (go_at_call 8; refine (hBt.out _ (HR1.out.below HB.out) (HR2.out.below HB.out) hm1 hm2).mono ?_; rintro e_ w1 ⟨v, rfl, hown, hb_⟩; obtain ⟨gq, capq, hvq⟩ := row_slice hown (by omega); subst hvq; have HO := Lib.hid hown; clear hown; have HB_ := Lib.hid (bl_then2 (by (repeat (with_reducible first | exact HB.out | apply bl_alloc2 | apply bl_drew2 | apply bl_drewN2))) hb_); clear HB hb_; (try clear hq); have HB := HB_; clear HB_; have hq := CB.of HB.out))
          have s1 := sndErr_zero (sndsErr_at (boxErr_zero hb0).2.1 i hlt)
          have s2 := sndErr_zero (sndsErr_at (boxErr_zero hb0).2.2 k hlk)
          have HRv := Lib.hid (row_of_own (enc := Rg.cs) (sz := 2) (fun _ => rfl) HO.out)
          have HW1 := Lib.hid HB.out
          obtain ⟨gq', o', hA', lgq, x0, x1⟩ := HRv.out.rg 0 (by simp [beatsOf, beatsUp])
          obtain ⟨rfl, rfl⟩ : gq = gq' ∧ 0 = o' := by simpa using hA'
          clear hA'
          have e0 : (beatsOf b i k hlt hlk (P + 1))[0]'(by simp [beatsOf, beatsUp]) = ⟨b.highs[k].tone.mn - b.lows[i].tone.mx, b.highs[k].tone.mx - b.lows[i].tone.mn⟩ := by
            simp [beatsOf, beatsUp, beatAt]; omega
          rw [e0] at x0 x1
          simp only [Nat.zero_mul, Nat.zero_add] at x0 x1
          clear e0
          obtain ⟨B1, o1, rfl, hlb1, a0, a1, -, -⟩ := (HR1.out.below HB.out).snd i hlt
          obtain ⟨B2, o2, rfl, hlb2, d0, d1, -, -⟩ := (HR2.out.below HB.out).snd k hlk
          have kb : ∀ j, w1.cell? ⟨g1, j, none⟩ = #[Value.int IntKind.i64 b.law.first, Value.int IntKind.i64 b.law.step, Value.int IntKind.i64 b.law.span, Value.int IntKind.i64 b.law.press, Value.int IntKind.i64 b.note, Value.slice (some ⟨B1, o1, none⟩) b.lows.length c1, Value.slice (some ⟨B2, o2, none⟩) b.highs.length c2, Value.int IntKind.i64 b.tip.mn, Value.int IntKind.i64 b.tip.mx, Value.int IntKind.i64 b.root.mn, Value.int IntKind.i64 b.root.mx, Value.int IntKind.i64 b.f.up.mn, Value.int IntKind.i64 b.f.up.mx, Value.int IntKind.i64 b.f.down.mn, Value.int IntKind.i64 b.f.down.mx, Value.int IntKind.i64 b.f.tipw.mn, Value.int IntKind.i64 b.f.tipw.mx, Value.int IntKind.i64 b.f.rootw.mn, Value.int IntKind.i64 b.f.rootw.mx, Value.int IntKind.i64 b.f.least, Value.int IntKind.i64 b.meter][j]? := fun j => (hq.1 _ j lg1).trans (kg1 j)
          have lb1 : g1 < w1.heap.size := Nat.lt_of_lt_of_le lg1 HB.out.size
          clear HO HB hq hBt
          go_cut [11, 12] (fun s11 s12 wx => ∃ p q : Nat, s11 = .pointer (some ⟨p, 0, none⟩) ∧ s12 = .pointer (some ⟨q, 0, none⟩) ∧ Below w1.heap.size w1 wx ∧ p < wx.heap.size ∧ q < wx.heap.size ∧ (∀ j, wx.cell? ⟨p, j, none⟩ = #[Value.int IntKind.i64 b.lows[i].tone.mn, Value.int IntKind.i64 b.lows[i].tone.mx][j]?) ∧ (∀ j, wx.cell? ⟨q, j, none⟩ = #[Value.int IntKind.i64 b.highs[k].tone.mn, Value.int IntKind.i64 b.highs[k].tone.mx][j]?))
          case first =>
            have HS9 := Lib.hid (show ∀ w', Below w1.heap.size w1 w' → (∀ j, w'.cell? ⟨g1, j, none⟩ = #[Value.int IntKind.i64 b.law.first, Value.int IntKind.i64 b.law.step, Value.int IntKind.i64 b.law.span, Value.int IntKind.i64 b.law.press, Value.int IntKind.i64 b.note, Value.slice (some ⟨B1, o1, none⟩) b.lows.length c1, Value.slice (some ⟨B2, o2, none⟩) b.highs.length c2, Value.int IntKind.i64 b.tip.mn, Value.int IntKind.i64 b.tip.mx, Value.int IntKind.i64 b.root.mn, Value.int IntKind.i64 b.root.mx, Value.int IntKind.i64 b.f.up.mn, Value.int IntKind.i64 b.f.up.mx, Value.int IntKind.i64 b.f.down.mn, Value.int IntKind.i64 b.f.down.mx, Value.int IntKind.i64 b.f.tipw.mn, Value.int IntKind.i64 b.f.tipw.mx, Value.int IntKind.i64 b.f.rootw.mn, Value.int IntKind.i64 b.f.rootw.mx, Value.int IntKind.i64 b.f.least, Value.int IntKind.i64 b.meter][j]?) ∧ w'.cell? ⟨B1, o1 + i * 4, none⟩ = some (.int .i64 b.lows[i].tone.mn) ∧ w'.cell? ⟨B1, o1 + i * 4 + 1, none⟩ = some (.int .i64 b.lows[i].tone.mx) ∧ w'.cell? ⟨B2, o2 + k * 4, none⟩ = some (.int .i64 b.highs[k].tone.mn) ∧ w'.cell? ⟨B2, o2 + k * 4 + 1, none⟩ = some (.int .i64 b.highs[k].tone.mx) from
              fun w' h => ⟨fun j => ((CB.of h).1 _ j lb1).trans (kb j), ((CB.of h).1 _ _ hlb1).trans a0, ((CB.of h).1 _ _ hlb1).trans a1, ((CB.of h).1 _ _ hlb2).trans d0, ((CB.of h).1 _ _ hlb2).trans d1⟩)
            refine wp_region_peel (S := fun w' => (∀ j, w'.cell? ⟨g1, j, none⟩ = #[Value.int IntKind.i64 b.law.first, Value.int IntKind.i64 b.law.step, Value.int IntKind.i64 b.law.span, Value.int IntKind.i64 b.law.press, Value.int IntKind.i64 b.note, Value.slice (some ⟨B1, o1, none⟩) b.lows.length c1, Value.slice (some ⟨B2, o2, none⟩) b.highs.length c2, Value.int IntKind.i64 b.tip.mn, Value.int IntKind.i64 b.tip.mx, Value.int IntKind.i64 b.root.mn, Value.int IntKind.i64 b.root.mx, Value.int IntKind.i64 b.f.up.mn, Value.int IntKind.i64 b.f.up.mx, Value.int IntKind.i64 b.f.down.mn, Value.int IntKind.i64 b.f.down.mx, Value.int IntKind.i64 b.f.tipw.mn, Value.int IntKind.i64 b.f.tipw.mx, Value.int IntKind.i64 b.f.rootw.mn, Value.int IntKind.i64 b.f.rootw.mx, Value.int IntKind.i64 b.f.least, Value.int IntKind.i64 b.meter][j]?) ∧ w'.cell? ⟨B1, o1 + i * 4, none⟩ = some (.int .i64 b.lows[i].tone.mn) ∧ w'.cell? ⟨B1, o1 + i * 4 + 1, none⟩ = some (.int .i64 b.lows[i].tone.mx) ∧ w'.cell? ⟨B2, o2 + k * 4, none⟩ = some (.int .i64 b.highs[k].tone.mn) ∧ w'.cell? ⟨B2, o2 + k * 4 + 1, none⟩ = some (.int .i64 b.highs[k].tone.mx)) 15 _ _ (by kernel_rfl) rfl rfl rfl (by kernel_rfl) (by kernel_rfl) ⟨kb, a0, a1, d0, d1⟩ (fun hHeld => ?_)
            simp only [Act.put, stillOf, List.set_cons_succ, List.set_cons_zero, List.setIfInBounds_toArray, List.getElem_toArray, List.getElem_cons_succ, List.getElem_cons_zero]
            refine wpAnyH_take (i := 0) (v := ?_) rfl (by kernel_rfl) (by kernel_rfl) (by kernel_rfl) (fun _ _ _ h => h) (Or.inl ⟨by rfl, ?_⟩) (by assumption) ?_; rotate_left 1; (focus ((intro w_ hS_; (try dsimp only at hS_); go_simp; first | done | with_reducible rfl))); simp only [Act.put, stillOf, List.set_cons_succ, List.set_cons_zero, List.setIfInBounds_toArray, List.getElem_toArray, List.getElem_cons_succ, List.getElem_cons_zero]
            refine wpAnyH_take (i := 1) (v := ?_) rfl (by kernel_rfl) (by kernel_rfl) (by kernel_rfl) (fun _ _ _ h => h) (Or.inl ⟨by rfl, ?_⟩) (by assumption) ?_; rotate_left 1; (focus ((intro w_ hS_; (try dsimp only at hS_); go_simp; first | done | with_reducible rfl))); simp only [Act.put, stillOf, List.set_cons_succ, List.set_cons_zero, List.setIfInBounds_toArray, List.getElem_toArray, List.getElem_cons_succ, List.getElem_cons_zero]
            refine wpAnyH_take (i := 2) (v := ?_) rfl (by kernel_rfl) (by kernel_rfl) (by kernel_rfl) (fun _ _ _ h => h) (Or.inl ⟨by rfl, ?_⟩) (by assumption) ?_; rotate_left 1; (focus ((intro w_ hS_; (try dsimp only at hS_); go_simp; first | done | with_reducible rfl))); simp only [Act.put, stillOf, List.set_cons_succ, List.set_cons_zero, List.setIfInBounds_toArray, List.getElem_toArray, List.getElem_cons_succ, List.getElem_cons_zero]
            refine wpAnyH_take (i := 3) (v := ?_) rfl (by kernel_rfl) (by kernel_rfl) (by kernel_rfl) (fun _ _ _ h => h) (Or.inl ⟨by rfl, ?_⟩) (by assumption) ?_; rotate_left 1; (focus ((intro w_ hS_; (try dsimp only at hS_); go_simp; first | done | with_reducible rfl))); simp only [Act.put, stillOf, List.set_cons_succ, List.set_cons_zero, List.setIfInBounds_toArray, List.getElem_toArray, List.getElem_cons_succ, List.getElem_cons_zero]
            refine wpAnyH_take (i := 4) (v := ?_) rfl (by kernel_rfl) (by kernel_rfl) (by kernel_rfl) (fun _ _ _ h => h) (Or.inl ⟨by rfl, ?_⟩) (by assumption) ?_; rotate_left 1; (focus ((intro w_ hS_; (try dsimp only at hS_); go_simp; first | done | with_reducible rfl))); simp only [Act.put, stillOf, List.set_cons_succ, List.set_cons_zero, List.setIfInBounds_toArray, List.getElem_toArray, List.getElem_cons_succ, List.getElem_cons_zero]
            refine wpAnyH_take (i := 5) (v := ?_) rfl (by kernel_rfl) (by kernel_rfl) (by kernel_rfl) (fun _ _ _ h => h) (Or.inl ⟨by rfl, ?_⟩) (by assumption) ?_; rotate_left 1; (focus ((intro w_ hS_; (try dsimp only at hS_); go_simp; first | done | with_reducible rfl))); simp only [Act.put, stillOf, List.set_cons_succ, List.set_cons_zero, List.setIfInBounds_toArray, List.getElem_toArray, List.getElem_cons_succ, List.getElem_cons_zero]
            refine wpAnyH_take (i := 6) (v := ?_) rfl (by kernel_rfl) (by kernel_rfl) (by kernel_rfl) (fun _ _ _ h => h) (Or.inl ⟨by rfl, ?_⟩) (by assumption) ?_; rotate_left 1; (focus ((intro w_ hS_; (try dsimp only at hS_); go_simp; first | done | with_reducible rfl))); simp only [Act.put, stillOf, List.set_cons_succ, List.set_cons_zero, List.setIfInBounds_toArray, List.getElem_toArray, List.getElem_cons_succ, List.getElem_cons_zero]
            refine wpAnyH_take (i := 7) (v := ?_) rfl (by kernel_rfl) (by kernel_rfl) (by kernel_rfl) (fun _ _ _ h => h) (Or.inl ⟨by rfl, ?_⟩) (by assumption) ?_; rotate_left 1; (focus ((intro w_ hS_; (try dsimp only at hS_); go_simp; first | done | with_reducible rfl))); simp only [Act.put, stillOf, List.set_cons_succ, List.set_cons_zero, List.setIfInBounds_toArray, List.getElem_toArray, List.getElem_cons_succ, List.getElem_cons_zero]
            refine wpAnyH_take (i := 8) (v := ?_) rfl (by kernel_rfl) (by kernel_rfl) (by kernel_rfl) (fun _ _ _ h => h) (Or.inl ⟨by rfl, ?_⟩) (by assumption) ?_; rotate_left 1; (focus ((intro w_ hS_; (try dsimp only at hS_); go_simp; first | done | with_reducible rfl))); simp only [Act.put, stillOf, List.set_cons_succ, List.set_cons_zero, List.setIfInBounds_toArray, List.getElem_toArray, List.getElem_cons_succ, List.getElem_cons_zero]
            refine wpAnyH_take (i := 9) (v := ?_) rfl (by kernel_rfl) (by kernel_rfl) (by kernel_rfl) (fun _ _ _ h => h) (Or.inl ⟨by rfl, ?_⟩) (by assumption) ?_; rotate_left 1; (focus ((intro w_ hS_; (try dsimp only at hS_); go_simp; first | done | with_reducible rfl))); simp only [Act.put, stillOf, List.set_cons_succ, List.set_cons_zero, List.setIfInBounds_toArray, List.getElem_toArray, List.getElem_cons_succ, List.getElem_cons_zero]
            refine wpAnyH_take (i := 10) (v := ?_) rfl (by kernel_rfl) (by kernel_rfl) (by kernel_rfl) (fun _ _ _ h => h) (Or.inl ⟨by rfl, ?_⟩) (by assumption) ?_; rotate_left 1; (focus ((intro w_ hS_; (try dsimp only at hS_); go_simp; first | done | with_reducible rfl))); simp only [Act.put, stillOf, List.set_cons_succ, List.set_cons_zero, List.setIfInBounds_toArray, List.getElem_toArray, List.getElem_cons_succ, List.getElem_cons_zero]
            refine wpAnyH_take (i := 11) (v := ?_) rfl (by kernel_rfl) (by kernel_rfl) (by kernel_rfl) (fun _ _ _ h => h) (Or.inl ⟨by rfl, ?_⟩) (by assumption) ?_; rotate_left 1; (focus ((intro w_ hS_; (try dsimp only at hS_); go_simp; first | done | with_reducible rfl))); simp only [Act.put, stillOf, List.set_cons_succ, List.set_cons_zero, List.setIfInBounds_toArray, List.getElem_toArray, List.getElem_cons_succ, List.getElem_cons_zero]
            refine wpAnyH_ready (rs := [12, 13]) (by kernel_rfl) (by simp) (AllReadyH.cons rfl (fun K hK => ?_) (AllReadyH.cons rfl (fun K hK => ?_) AllReadyH.nil))
            · go_simp
              refine hK.out _ _ (HS9.out _ (bl_alloc (bl_drew (Below.refl _ _)) _)) (fun hHeld => ?_)
              clear hK K
              refine wpAnyH_ready (rs := [13]) (by kernel_rfl) (by simp) (AllReadyH.cons rfl (fun K hK => ?_) AllReadyH.nil)
              go_simp
              refine hK.out _ _ (HS9.out _ (bl_alloc (bl_alloc (bl_drew (Below.refl _ _)) _) _)) (fun hHeld => ?_)
              clear hK K
              refine wpAnyH_ready (rs := [14]) (by kernel_rfl) (by simp) (AllReadyH.cons rfl (fun K hK => ?_) AllReadyH.nil)
              go_simp
              refine hK.out _ _ (HS9.out _ (bl_drew (bl_alloc (bl_alloc (Below.refl _ _) _) _))) (fun hHeld => ?_)
              clear hK K
              refine wpAnyH_take (i := 15) (v := ?_) rfl (by kernel_rfl) (by kernel_rfl) (by kernel_rfl) (fun _ _ _ h => h) (Or.inl ⟨by rfl, ?_⟩) (by assumption) ?_; rotate_left 1; (focus ((intro w_ hS_; (try dsimp only at hS_); go_simp; first | done | with_reducible rfl))); simp only [Act.put, stillOf, List.set_cons_succ, List.set_cons_zero, List.setIfInBounds_toArray, List.getElem_toArray, List.getElem_cons_succ, List.getElem_cons_zero]
              refine wpAnyH_done (by kernel_rfl) ?_ _
              unfold Peeled
              dsimp only
              go_simp
              go_wp2_with fail
              go_meet
              obtain ⟨v1, v2, v3, v4, v5⟩ := two_boxes w1 #[Value.int IntKind.i64 b.lows[i].tone.mn, Value.int IntKind.i64 b.lows[i].tone.mx] #[Value.int IntKind.i64 b.highs[k].tone.mn, Value.int IntKind.i64 b.highs[k].tone.mx] 26
              exact ⟨_, _, rfl, rfl, v1, v2, v3, v4, v5⟩
            · go_simp
              refine hK.out _ _ (HS9.out _ (bl_alloc (bl_drew (Below.refl _ _)) _)) (fun hHeld => ?_)
              clear hK K
              refine wpAnyH_ready (rs := [12]) (by kernel_rfl) (by simp) (AllReadyH.cons rfl (fun K hK => ?_) AllReadyH.nil)
              go_simp
              refine hK.out _ _ (HS9.out _ (bl_alloc (bl_alloc (bl_drew (Below.refl _ _)) _) _)) (fun hHeld => ?_)
              clear hK K
              refine wpAnyH_ready (rs := [14]) (by kernel_rfl) (by simp) (AllReadyH.cons rfl (fun K hK => ?_) AllReadyH.nil)
              go_simp
              refine hK.out _ _ (HS9.out _ (bl_drew (bl_alloc (bl_alloc (Below.refl _ _) _) _))) (fun hHeld => ?_)
              clear hK K
              refine wpAnyH_take (i := 15) (v := ?_) rfl (by kernel_rfl) (by kernel_rfl) (by kernel_rfl) (fun _ _ _ h => h) (Or.inl ⟨by rfl, ?_⟩) (by assumption) ?_; rotate_left 1; (focus ((intro w_ hS_; (try dsimp only at hS_); go_simp; first | done | with_reducible rfl))); simp only [Act.put, stillOf, List.set_cons_succ, List.set_cons_zero, List.setIfInBounds_toArray, List.getElem_toArray, List.getElem_cons_succ, List.getElem_cons_zero]
              refine wpAnyH_done (by kernel_rfl) ?_ _
              unfold Peeled
              dsimp only
              go_simp
              go_wp2_with fail
              go_meet
              obtain ⟨v1, v2, v3, v4, v5⟩ := two_boxes w1 #[Value.int IntKind.i64 b.highs[k].tone.mn, Value.int IntKind.i64 b.highs[k].tone.mx] #[Value.int IntKind.i64 b.lows[i].tone.mn, Value.int IntKind.i64 b.lows[i].tone.mx] 26
              exact ⟨_, _, rfl, rfl, v1, v3, v2, v5, v4⟩
          case rest =>
            obtain ⟨p, q, rfl, rfl, hb, lp, lq, kp, kq⟩ := hcut
            have hx0 := ((CB.of hb).1 _ 0 lgq).trans x0
            have hx1 := ((CB.of hb).1 _ 1 lgq).trans x1
            have HWx := Lib.hid (bl_then HW1.out hb)
            clear hb HRv HW1 kb lb1 a0 a1 d0 d1 x0 x1 lgq
            generalize b.lows[i].tone = lo at *
            generalize b.highs[k].tone = hi at *
            have hs1 := s1.1
            have hs2 := s2.1
            clear s1 s2
            have HB := Lib.hid (Below.refl wc.heap.size wc)
            go_upto_region 12 with ((with_reducible refine st_gate 41 rfl ?_); refine wpList_store_row rfl 41 _ _ rfl _ _ rfl rfl 41 _ (heap_alloc_at _ _ _ rfl) size41 (by simp) (by simp [Value.oneCell']) ?_)
            generalize hW : (wc.alloc _).alloc _ = V
            generalize h2_ : wc.heap.size + 1 = e2
            generalize h1_ : wc.heap.size = e1
            obtain ⟨hB0_, He1, He2, ke1, ke2, fe1, fe2, le1, le2, be1, be2, ne12, ne21⟩ := gen2 wc _ _ _ _ hW h2_ h1_
            have H0V := Lib.hid hB0_
            clear hB0_
            have HHe1 := Lib.hid He1
            have HHe2 := Lib.hid He2
            clear He1 He2
            rw [h1_] at ke2 HHe2
            clear hW h1_ h2_
            have HRe := Lib.hid (row_two ⟨base + lo.mn, base + lo.mx⟩ ⟨base + hi.mn, base + hi.mx⟩ ke1)
            have hy0 := ((CB.of H0V.out).1 _ 0 (World.block_lt_of_cell? wc _ hx0)).trans hx0
            have hy1 := ((CB.of H0V.out).1 _ 1 (World.block_lt_of_cell? wc _ hx1)).trans hx1
            have HWV := Lib.hid (bl_then HWx.out H0V.out)
            have hqW := CB.of HWV.out
            have kbV : ∀ j, V.cell? ⟨g1, j, none⟩ = #[Value.int IntKind.i64 b.law.first, Value.int IntKind.i64 b.law.step, Value.int IntKind.i64 b.law.span, Value.int IntKind.i64 b.law.press, Value.int IntKind.i64 b.note, Value.slice (some ⟨B1, o1, none⟩) b.lows.length c1, Value.slice (some ⟨B2, o2, none⟩) b.highs.length c2, Value.int IntKind.i64 b.tip.mn, Value.int IntKind.i64 b.tip.mx, Value.int IntKind.i64 b.root.mn, Value.int IntKind.i64 b.root.mx, Value.int IntKind.i64 b.f.up.mn, Value.int IntKind.i64 b.f.up.mx, Value.int IntKind.i64 b.f.down.mn, Value.int IntKind.i64 b.f.down.mx, Value.int IntKind.i64 b.f.tipw.mn, Value.int IntKind.i64 b.f.tipw.mx, Value.int IntKind.i64 b.f.rootw.mn, Value.int IntKind.i64 b.f.rootw.mx, Value.int IntKind.i64 b.f.least, Value.int IntKind.i64 b.meter][j]? := fun j => (hqW.1 _ j lg1).trans (kg1 j)
            have lbV : g1 < V.heap.size := Nat.lt_of_lt_of_le lg1 HWV.out.size
            have lgq := World.block_lt_of_cell? V _ hy0
            clear HWx HB hx0 hx1 kp kq lp lq hqW ke1 H0V
            have HB := Lib.hid (Below.refl V.heap.size V)
            obtain ⟨er, her⟩ : ∃ er, earErr ⟨0, [⟨base + lo.mn, base + lo.mx⟩, ⟨base + hi.mn, base + hi.mx⟩], []⟩ = er := ⟨_, rfl⟩
            have hR := Lib.hid (two_check _ _ er her)
            have HE := Lib.hid her
            clear her
            go_upto_if 95 with (first
              | ((with_reducible refine ld_gate 41 rfl ?_); refine wpList_load_row rfl 41 _ rfl e2 rfl 41 _ (0, 0) _ ((HB.out.block _ le2).trans HHe2.out) Try.underlying41 rfl size41 ?_)
              | (go_at_call 9; with_reducible refine (hR.out _ _ _ (HRe.out.below HB.out)).mono ?_; rintro e_ w2 ⟨rfl, hb_⟩; have HB_ := Lib.hid (bl_then2 (by (repeat (with_reducible first | exact HB.out | apply bl_alloc2 | apply bl_drew2 | apply bl_drewN2))) hb_); clear HB hb_; (try clear hq); have HB := HB_; clear HB_; have hq := CB.of HB.out))
            by_cases he : er = 0
            · have hBe := Lib.hid (two_beats ⟨base + lo.mn, base + lo.mx⟩ ⟨base + hi.mn, base + hi.mx⟩ secs hse (HE.out.trans he) (hi.mn - lo.mx) (hi.mx - lo.mn) (by simp only []; omega) (by simp only []; omega))
              have hHi := Lib.hid (two_higher ⟨base + lo.mn, base + lo.mx⟩ ⟨base + hi.mn, base + hi.mx⟩ (HE.out.trans he) (hi.mn - lo.mx) (hi.mx - lo.mn) (by simp only []; omega) (by simp only []; omega))
              obtain ⟨D, hD⟩ : ∃ D, hi.mn - lo.mx = D := ⟨_, rfl⟩
              obtain ⟨E, hE⟩ : ∃ E, hi.mx - lo.mn = E := ⟨_, rfl⟩
              rw [hD, hE] at hBe hHi
              rw [hD] at hy0
              rw [hE] at hy1
              have hDE : -60 ≤ D ∧ D ≤ E ∧ E ≤ 60 := by omega
              have HHE := Lib.hid (And.intro hD hE)
              clear hD hE
              have hml : 0 ≤ max (max 0 D) (-E) * secs / 100 ∧ 0 ≤ max E (-D) * secs / 100 := by
                have a1 : 0 ≤ max (max 0 D) (-E) := by omega
                have a2 : 0 ≤ max E (-D) := by omega
                exact ⟨Int.ediv_nonneg (Int.mul_nonneg a1 (by omega)) (by omega), Int.ediv_nonneg (Int.mul_nonneg a2 (by omega)) (by omega)⟩
              obtain ⟨lb, hlb⟩ : ∃ lb, max (max 0 D) (-E) * secs / 100 = lb := ⟨_, rfl⟩
              obtain ⟨mb, hmb⟩ : ∃ mb, max E (-D) * secs / 100 = mb := ⟨_, rfl⟩
              rw [hlb, hmb] at hBe
              have HLM := Lib.hid (And.intro hlb hmb)
              clear hlb hmb hml
              have hP1 : b.law.press ≤ (P : Int) := by rw [HP.out]; exact Int.le_refl _
              have hP2 : (P : Int) ≤ b.law.press := by rw [HP.out]; exact Int.le_refl _
              have hP3 : (P : Int) ≤ 3 := by have := lawErr_zero (boxErr_zero hb0).1; omega
              have lzV := World.block_lt_of_cell? V _ hy0
              go_upto_region 14 with (first
                | ((with_reducible refine ld_gate 41 rfl ?_); refine wpList_load_row rfl 41 _ rfl e2 rfl 41 _ (0, 0) _ ((HB.out.block _ le2).trans HHe2.out) Try.underlying41 rfl size41 ?_)
                | (go_at_call 10; with_reducible refine (hBe.out _ _ _ (HRe.out.below HB.out) (Nat.lt_of_lt_of_le le1 HB.out.size)).mono ?_; rintro e_ w3 ⟨rfl, hb_⟩; have HB_ := Lib.hid (bl_then2 (by (repeat (with_reducible first | exact HB.out | apply bl_alloc2 | apply bl_drew2 | apply bl_drewN2))) hb_); clear HB hb_; (try clear hq); have HB := HB_; clear HB_; have hq := CB.of HB.out))
              generalize hW : w3.alloc _ = Z
              generalize h1_ : w3.heap.size = z1
              obtain ⟨hB0_, Hz1, kz1, fz1, lz1, bz1⟩ := gen1 w3 _ _ hW h1_
              clear hW h1_
              have H0Z := Lib.hid hB0_
              clear hB0_
              have HHz1 := Lib.hid Hz1
              clear Hz1
              have HVZ := Lib.hid (bl_then HB.out H0Z.out)
              have hqz := CB.of HVZ.out
              have HWZ := Lib.hid (bl_then HWV.out HVZ.out)
              have hz0 := (hqz.1 _ 0 lgq).trans hy0
              have hz1 := (hqz.1 _ 1 lgq).trans hy1
              have kbZ : ∀ j, Z.cell? ⟨g1, j, none⟩ = #[Value.int IntKind.i64 b.law.first, Value.int IntKind.i64 b.law.step, Value.int IntKind.i64 b.law.span, Value.int IntKind.i64 b.law.press, Value.int IntKind.i64 b.note, Value.slice (some ⟨B1, o1, none⟩) b.lows.length c1, Value.slice (some ⟨B2, o2, none⟩) b.highs.length c2, Value.int IntKind.i64 b.tip.mn, Value.int IntKind.i64 b.tip.mx, Value.int IntKind.i64 b.root.mn, Value.int IntKind.i64 b.root.mx, Value.int IntKind.i64 b.f.up.mn, Value.int IntKind.i64 b.f.up.mx, Value.int IntKind.i64 b.f.down.mn, Value.int IntKind.i64 b.f.down.mx, Value.int IntKind.i64 b.f.tipw.mn, Value.int IntKind.i64 b.f.tipw.mx, Value.int IntKind.i64 b.f.rootw.mn, Value.int IntKind.i64 b.f.rootw.mx, Value.int IntKind.i64 b.f.least, Value.int IntKind.i64 b.meter][j]? := fun j => (hqz.1 _ j lbV).trans (kbV j)
              have lbZ := Nat.lt_of_lt_of_le lbV HVZ.out.size
              have lgZ := Nat.lt_of_lt_of_le lgq HVZ.out.size
              have HRz := Lib.hid (HRe.out.below HVZ.out)
              have HHe2z := Lib.hid ((HVZ.out.block _ le2).trans HHe2.out)
              have le1z := Nat.lt_of_lt_of_le le1 HVZ.out.size
              have le2z := Nat.lt_of_lt_of_le le2 HVZ.out.size
              clear HB hq H0Z hqz hy0 hy1 kbV lbV lgq HRe HHe2 ke2 le1 le2 HVZ hBe hR
              have HB := Lib.hid (Below.refl Z.heap.size Z)
              go_upto_if 125 with (first
                | ((with_reducible refine ld_gate 41 rfl ?_); refine wpList_load_row rfl 41 _ rfl e2 rfl 41 _ (0, 0) _ ((HB.out.block _ le2z).trans HHe2z.out) Try.underlying41 rfl size41 ?_)
                | (go_at_call 11; with_reducible refine (hHi.out _ _ _ (HRz.out.below HB.out) (Nat.lt_of_lt_of_le le1z HB.out.size)).mono ?_; rintro e_ w4 ⟨vv, rfl, hvv, hb_⟩; have HB_ := Lib.hid (bl_then2 (by (repeat (with_reducible first | exact HB.out | apply bl_alloc2 | apply bl_drew2 | apply bl_drewN2))) hb_); clear HB hb_; (try clear hq); have HB := HB_; clear HB_; have hq := CB.of HB.out))
              have g0 := (hq.1 _ 0 lgZ).trans hz0
              have g9 := (hq.1 _ 1 lgZ).trans hz1
              have g2 := fun j => (hq.1 _ j lz1).trans (kz1 j)
              have lz4 : z1 < w4.heap.size := Nat.lt_of_lt_of_le lz1 HB.out.size
              obtain ⟨L, hL⟩ : ∃ L, max (max 0 D) (-E) = L := ⟨_, rfl⟩
              obtain ⟨M, hM⟩ : ∃ M, max E (-D) = M := ⟨_, rfl⟩
              have hL9 : 0 ≤ L ∧ L ≤ 60 := by omega
              have hM9 : 0 ≤ M ∧ M ≤ 60 := by omega
              have hm3 : ∀ w : World, (Builtin.max_ #[3, 3, 3] 3 #[.int .i64 0, .int .i64 D, .int .i64 (-E)]).run Try.prog w = .ok (.int .i64 L) w := by
                intro w; rw [max3_run, hL]
              have hm2 : (if -D > E then -D else E) = M := by rw [← hM]; split <;> omega
              have hm2' : (if E < -D then -D else E) = M := hm2
              have qq1 : wrap64 ((wrap64 (L * secs)).tdiv 100) = lb := by rw [← HLM.out.1, hL]; exact quo_secs hL9 hse
              have qq2 : wrap64 ((wrap64 (M * secs)).tdiv 100) = mb := by rw [← HLM.out.2, hM]; exact quo_secs hM9 hse
              have v1 : (vv == 1) = decide (0 < D) := by rw [Bool.eq_iff_iff]; simp [hvv.out.1]
              have v2 : (vv == 2) = decide (E ≤ 0) := by rw [Bool.eq_iff_iff]; simp [hvv.out.2]
              clear hL hM hvv hm2
              go_wp2_with fail
              refine ⟨⟨k + 1, by omega, by simp, bl_alloc (bl_then HWZ.out HB.out) _⟩, ?_⟩
              simp [intOf]; omega
            · go_wp2_with fail
              refine ⟨⟨k + 1, by omega, by simp, bl_then HWV.out HB.out⟩, ?_⟩
              simp [intOf]; omega
        · have hlki : ¬ ((k : Int) < (b.highs.length : Int)) := by omega
          go_wp2_with fail
          refine ⟨⟨i + 1, by omega, by simp, HB.out⟩, ?_⟩
          simp [intOf]; omega
    · have hlti : ¬ ((i : Int) < (b.lows.length : Int)) := by omega
      go_wp2_with (go_at_call 7; refine (hA.out _).mono ?_; rintro e_ w2 ⟨rfl, hb_⟩; have HB_ := Lib.hid (bl_then2 (by (repeat (with_reducible first | exact HB.out | apply bl_alloc2 | apply bl_drew2 | apply bl_drewN2))) hb_); clear HB hb_; (try clear hq); have HB := HB_; clear HB_; have hq := CB.of HB.out)
      go_ret
      exact ⟨rfl, by (repeat (first | exact bl_then H0W.out HB.out | exact H0W.out | exact HB.out | exact Below.refl _ _ | refine bl_set ?_ (by assumption) _ | refine bl_alloc ?_ _ | refine bl_drew ?_ | refine bl_drewN ?_ _))⟩

end Go.Proofs.Ytnclljamcfoolaa
