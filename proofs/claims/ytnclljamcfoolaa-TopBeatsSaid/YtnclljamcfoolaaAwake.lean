/- Walk of musettetop.beatsAwake: the examples. -/
import Derived.Test.YtnclljamcfoolaaSame
import Derived.Test.YtnclljamcfoolaaLaw1
import Derived.Test.YtnclljamcfoolaaVoice4
namespace Go.Proofs.Ytnclljamcfoolaa
open Go.RowKit
set_option linter.unusedVariables false
set_option linter.unusedSimpArgs false

theorem row_one {α : Type} {enc : α → List Value} {sz : Nat} {W : World} {g : Nat} {cs : Array Value} (x : α) (he : enc x = cs.toList) (h : ∀ j, W.cell? ⟨g, j, none⟩ = cs[j]?) : Row enc sz W (some ⟨g, 0, none⟩) [x] := by
  refine .inr ⟨g, 0, rfl, fun i y hy j v hv => ?_⟩
  match i with
  | 0 =>
    obtain rfl : x = y := by simpa using hy
    rw [he] at hv
    rw [show 0 + 0 * sz + j = j by omega, h j]
    simpa using hv
  | i + 1 => simp at hy

def awBox : Box := ⟨⟨14, 0, 0, 0⟩, 0, [⟨⟨0, 0⟩, ⟨0, 0⟩⟩], [⟨⟨14, 15⟩, ⟨0, 0⟩⟩], ⟨0, 0⟩, ⟨0, 0⟩, ⟨⟨0, 0⟩, ⟨0, 0⟩, ⟨0, 0⟩, ⟨0, 0⟩, 0⟩, 0⟩
theorem awBox_ok : boxErr awBox = 0 := by decide
def awEar : Ear := ⟨0, [⟨500, 500⟩, ⟨510, 515⟩], []⟩
theorem awEar_ok : earErr awEar = 0 := by decide

theorem awBeats_calls (w : World) (b c : Nat) (h1 : Row Rg.cs 2 w (some ⟨b, 0, none⟩) awEar.tones) (hb : b < w.heap.size) :
    Calls Try.prog 10 #[.agg #[.int .i64 0, .slice (some ⟨b, 0, none⟩) 2 c, .slice none 0 0], .int .i64 0, .int .i64 1, .int .i64 10] w fun ed w' => ed = .returned (.tuple #[.agg #[.int .i64 1, .int .i64 1], .int .i64 0]) ∧ Below w.heap.size w w' := by
  have hlen : (allTruths (fun _ => true) awEar).length ≤ 1000000 := Nat.le_trans (allTruths_len _ awEar_ok) (by decide)
  have h := Beats01 awEar b 0 c none 0 10 (by decide) awEar_ok rfl (by decide) (by decide) (truths2_ok (x := ⟨500, 500⟩) (y := ⟨510, 515⟩) rfl awEar_ok) hlen w h1 hb
  obtain ⟨e1, e2⟩ := beats_law awEar ⟨500, 500⟩ ⟨510, 515⟩ rfl awEar_ok 10 (by decide) _ (List.getElem_mem (allTruths_pos awEar_ok))
  rw [e1, e2] at h
  exact h
set_option maxRecDepth 100000 in
set_option maxHeartbeats 1000000 in
theorem beatsAwake_calls (w : World) :
    Calls Try.prog 7 #[] w fun e w' => e = .returned (.bool true) ∧ Below w.heap.size w w' := by
  go_enter Try.func7, Try.ntmps7
  go_upto_region 2 with ((with_reducible refine st_gate 30 rfl ?_); refine wpList_store_row rfl 30 _ _ rfl (w.heap.size + 1 + 1) _ rfl rfl 30 _ (heap_alloc_at _ _ _ (by simp)) size30 (by simp) (by simp [Value.oneCell']) ?_)
  generalize hW : ((w.alloc _).alloc _).alloc _ = V
  generalize h3_ : w.heap.size + 1 + 1 = g3
  generalize h2_ : w.heap.size + 1 = g2
  generalize h1_ : w.heap.size = g1
  obtain ⟨hB0_, Hg1, Hg2, Hg3, kg1, kg2, kg3, fg1, fg2, fg3, lg1, lg2, lg3, bg1, bg2, bg3, ng12, ng13, ng21, ng23, ng31, ng32⟩ := gen3 w _ _ _ _ _ _ hW h3_ h2_ h1_
  clear hW h1_ h2_ h3_
  have H0V := Lib.hid hB0_
  clear hB0_
  have HHg1 := Lib.hid Hg1
  have HHg2 := Lib.hid Hg2
  have HHg3 := Lib.hid Hg3
  clear Hg1 Hg2 Hg3
  generalize hU : V.setRow g3 _ = U
  have hUg := Lib.hid (hU ▸ setRow_heap HHg3.out)
  have hwr : Wrote V U g3 := hU ▸ wrote_setRow V g3 _
  have hUb := Lib.hid (hwr.below H0V.out bg3)
  have hn1 : g1 ≠ g3 := by intro h; rw [h] at ng13; exact ng13 ▸ rfl
  have hn2 : g2 ≠ g3 := by intro h; rw [h] at ng23; exact ng23 ▸ rfl
  have HR1 := Lib.hid (row_one (enc := Snd.cs) (sz := 4) ⟨⟨0, 0⟩, ⟨0, 0⟩⟩ rfl (fun j => (hwr.cell hn1 j).trans (kg1 j)))
  have HR2 := Lib.hid (row_one (enc := Snd.cs) (sz := 4) ⟨⟨14, 15⟩, ⟨0, 0⟩⟩ rfl (fun j => (hwr.cell hn2 j).trans (kg2 j)))
  clear hU hwr hn1 hn2 kg1 kg2 kg3 fg1 fg2 fg3 lg1 lg2 lg3 ng12 ng13 ng21 ng23 ng31 ng32 HHg1 HHg2 HHg3 bg1 bg2 bg3
  have HB := Lib.hid (Below.refl U.heap.size U)
  have hB := Lib.hid (Beat_calls awBox (some ⟨g1, 0, none⟩) (some ⟨g2, 0, none⟩) 1 1 0 0 (by decide) (by decide) 0 rfl awBox_ok)
  go_upto_region 3 with (first
    | ((with_reducible refine ld_gate 30 rfl ?_); refine wpList_load_row rfl 30 _ rfl g3 rfl 30 _ (0, 0) _ hUg.out Try.underlying30 rfl size30 ?_)
    | (go_at_call 8; (refine (hB.out _ HR1.out HR2.out (by decide) (by decide)).mono ?_; rintro e_ w1 ⟨v, rfl, hown, hb_⟩; obtain ⟨gq, capq, hvq⟩ := row_slice hown (by decide); subst hvq; have HO := Lib.hid hown; clear hown; have HB_ := Lib.hid (bl_then2 (by (repeat (with_reducible first | exact HB.out | apply bl_alloc2 | apply bl_drew2 | apply bl_drewN2))) hb_); clear HB hb_; (try clear hq); have HB := HB_; clear HB_; have hq := CB.of HB.out)))
  have HRv := Lib.hid (row_of_own (enc := Rg.cs) (sz := 2) (fun _ => rfl) HO.out)
  have HU1 := Lib.hid (bl_then hUb.out HB.out)
  clear HO HB hq hUb HR1 HR2 hUg hB H0V
  have HB := Lib.hid (Below.refl w1.heap.size w1)
  go_upto_region 4 with (first
    | (go_at_call 10; (refine (awBeats_calls _ _ _ (row_new2 _ ⟨500, 500⟩ ⟨510, 515⟩) (by simp)).mono ?_; rintro e_ w2 ⟨rfl, hb_⟩; have HB_ := Lib.hid (bl_then2 (by (repeat (with_reducible first | exact HB.out | apply bl_alloc2 | apply bl_drew2 | apply bl_drewN2))) hb_); clear HB hb_; (try clear hq); have HB := HB_; clear HB_; have hq := CB.of HB.out))
    | ((with_reducible refine st_gate 26 rfl ?_); refine wpList_store_row rfl 26 _ _ rfl _ _ rfl rfl 26 _ (heap_alloc_at _ _ _ rfl) size26m (by simp) (by simp [Value.oneCell']) ?_))
  generalize hg4 : w2.heap.size = g4
  generalize hX : (w2.alloc _).setRow g4 _ = X
  have HHg4 := Lib.hid (hX ▸ setRow_heap (heap_alloc_at w2 _ g4 hg4.symm))
  have HBX : Below w1.heap.size w1 X := hX ▸ bl_setRow (bl_alloc HB.out _) (hg4 ▸ HB.out.size) _
  have lg4 : g4 < X.heap.size := (Array.getElem?_eq_some_iff.1 HHg4.out).1
  have HU2 := Lib.hid (bl_then HU1.out HBX)
  have hS := (same_calls (beatsOf awBox 0 0 (by decide) (by decide) (0 + 1)) [⟨14, 15⟩] (some ⟨gq, 0, none⟩) (some ⟨X.heap.size, 0, none⟩) capq 1 (by decide) (X.alloc (.cells #[.int .i64 14, .int .i64 15] 26)) ((HRv.out.below HBX).below (bl_alloc (Below.refl _ _) _)) (row_one _ rfl fun j => cell_of_row _ _ j _ _ _ (heap_new X _)))
  rw [show sameAt (beatsOf awBox 0 0 (by decide) (by decide) (0 + 1)) [⟨14, 15⟩] (beatsOf awBox 0 0 (by decide) (by decide) (0 + 1)).length = true from by decide] at hS
  have HS := Lib.hid hS
  have kg4 : ∀ j, X.cell? ⟨g4, j, none⟩ = #[Value.int .i64 1, Value.int .i64 1][j]? := fun j => cell_of_row _ _ j _ _ _ HHg4.out
  clear hX hg4 HB hq HU1 HBX HRv hS HHg4
  have HB := Lib.hid (Below.refl X.heap.size X)
  go_wp2_with (first
    | (go_at_call 35; (refine HS.out.mono ?_; rintro e_ w3 ⟨rfl, hb_⟩; have HB_ := Lib.hid (bl_then2 (by (repeat (with_reducible first | exact HB.out | apply bl_alloc2 | apply bl_drew2 | apply bl_drewN2))) hb_); clear HB hb_; (try clear hq); have HB := HB_; clear HB_; have hq := CB.of HB.out)))
  go_ret
  exact ⟨rfl, bl_then HU2.out (by (repeat (with_reducible first | exact HB.out | apply bl_alloc2 | apply bl_drew2 | apply bl_drewN2)))⟩

end Go.Proofs.Ytnclljamcfoolaa
