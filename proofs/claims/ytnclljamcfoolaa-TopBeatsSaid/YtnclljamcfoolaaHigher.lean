/- Walk of meter.Higher at tongues 1, 0. -/
import Derived.Test.YtnclljamcfoolaaBeats3
namespace Go.Proofs.Ytnclljamcfoolaa
open Go.RowKit
set_option linter.unusedVariables false
set_option linter.unusedSimpArgs false

set_option maxRecDepth 100000 in
set_option maxHeartbeats 1000000 in
theorem Higher10 (e : Ear) (b o c1 : Nat) (A2 : Option Addr) (c2 : Nat) (he : earErr e = 0) (hr : e.reads = []) (hn : 2 ≤ e.tones.length) (hn9 : e.tones.length ≤ 1000000) (hlen : (allTruths (fun _ => true) e).length ≤ 1000000) (w : World) (h1 : Row Rg.cs 2 w (some ⟨b, o, none⟩) e.tones) (hb : b < w.heap.size) :
    Calls Try.prog 11 #[.agg #[.int .i64 e.slack, .slice (some ⟨b, o, none⟩) e.tones.length c1, .slice A2 0 c2], .int .i64 1, .int .i64 0] w fun ed w' => ed = .returned (.tuple #[.int .i64 (verdictOf (countP (fun t => decide (t.a < t.b)) (allTruths (fun _ => true) e)) (allTruths (fun _ => true) e).length), .int .i64 0]) ∧ Below w.heap.size w w' := by
  have h2 : twoErr e.tones.length 1 0 = 0 := by unfold twoErr; simp [inB_false]; omega
  have hT := Lib.hid (fun v w hv => two_calls e.slack (some ⟨b, o, none⟩) e.tones.length c1 v 1 0 hn9 w hv)
  rw [h2] at hT
  have hpos := allTruths_pos he
  have hv : ∃ A m c, Value.slice A2 0 c2 = .slice A m c := ⟨_, _, _, rfl⟩
  go_enter Try.func11, Try.ntmps11
  go_upto_region 1 with (fail)
  generalize hW : ((w.alloc _).alloc _).alloc _ = W
  generalize h3_ : w.heap.size + 1 + 1 = g3
  generalize h2_ : w.heap.size + 1 = g2
  generalize h1_ : w.heap.size = g1
  obtain ⟨hB0_, Hg1, Hg2, Hg3, kg1, kg2, kg3, fg1, fg2, fg3, lg1, lg2, lg3, bg1, bg2, bg3, ng12, ng13, ng21, ng23, ng31, ng32⟩ := gen3 w _ _ _ _ _ _ hW h3_ h2_ h1_
  clear hW h1_ h2_ h3_
  have H0W := Lib.hid hB0_
  clear hB0_
  have HHg1 := Lib.hid Hg1
  have HHg2 := Lib.hid Hg2
  have HHg3 := Lib.hid Hg3
  clear Hg1 Hg2 Hg3
  have HB := Lib.hid (Below.refl W.heap.size W)
  have HR := Lib.hid (h1.below H0W.out)
  have hbW : b < W.heap.size := Nat.lt_of_lt_of_le hb H0W.out.size
  clear h1
  go_region_held3 (fun w' => (∀ j, w'.cell? ⟨g1, j, none⟩ = #[Value.int IntKind.i64 e.slack, Value.slice (some ⟨b, o, none⟩) e.tones.length c1, Value.slice A2 0 c2][j]?) ∧ (∀ j, w'.cell? ⟨g2, j, none⟩ = #[Value.int IntKind.i64 1][j]?) ∧ (∀ j, w'.cell? ⟨g3, j, none⟩ = #[Value.int IntKind.i64 0][j]?) ∧ Below W.heap.size W w')
    (first | exact ⟨fun j => (hq.1 _ j lg1).trans (kg1 j), fun j => (hq.1 _ j lg2).trans (kg2 j), fun j => (hq.1 _ j lg3).trans (kg3 j), HB.out⟩ | exact ⟨fun j => ((CB.of (bl_drew HB.out)).1 _ j lg1).trans (kg1 j), fun j => ((CB.of (bl_drew HB.out)).1 _ j lg2).trans (kg2 j), fun j => ((CB.of (bl_drew HB.out)).1 _ j lg3).trans (kg3 j), bl_drew HB.out⟩)
    (first
    | (go_at_call 41; with_reducible refine (hT.out _ _ hv).mono ?_; rintro e_ w1 ⟨rfl, hb_⟩; have HB_ := Lib.hid (bl_then2 (by (repeat (with_reducible first | exact HB.out | apply bl_alloc2 | apply bl_drew2 | apply bl_drewN2))) hb_); clear HB hb_; (try clear hq); have HB := HB_; clear HB_; have hq := CB.of HB.out)
    | (go_at_call 43; refine (ask_calls e b o c1 A2 c2 he hr _ (HR.out.below (by (repeat (with_reducible first | exact HB.out | apply bl_alloc2 | apply bl_drew2 | apply bl_drewN2)))) (Nat.lt_of_lt_of_le hbW HB.out.size)).mono ?_; rintro e_ w1 ⟨v, rfl, hr_, hb_⟩; obtain ⟨gq, capq, hvq⟩ := row_slice hr_ hpos; subst hvq; have HO := Lib.hid hr_; have hsz := HB.out.size; clear hr_; have HB_ := Lib.hid (bl_then2 (by (repeat (with_reducible first | exact HB.out | apply bl_alloc2 | apply bl_drew2 | apply bl_drewN2))) hb_); clear HB hb_; (try clear hq); have HB := HB_; clear HB_; have hq := CB.of HB.out))
  have hV := Lib.hid (verdict48 (allTruths (fun _ => true) e) gq capq g2 g3 hlen)
  go_wp2_with (go_at_call 47; refine (hV.out _ (row_of_own (enc := T3.cs) (sz := 3) (fun _ => rfl) HO.out) ((hq.1 _ 0 lg2).trans (kg2 0)) ((hq.1 _ 0 lg3).trans (kg3 0))).mono ?_; rintro e_ w1 ⟨rfl, hb_⟩; have HB_ := Lib.hid (bl_then2 (by (repeat (with_reducible first | exact HB.out | apply bl_alloc2 | apply bl_drew2 | apply bl_drewN2))) hb_); clear HB hb_; (try clear hq); have HB := HB_; clear HB_; have hq := CB.of HB.out)
  go_ret2
  exact ⟨rfl, by (repeat (first | exact bl_then H0W.out HB.out | exact H0W.out | exact HB.out | exact Below.refl _ _ | refine bl_set ?_ (by assumption) _ | refine bl_alloc ?_ _ | refine bl_drew ?_ | refine bl_drewN ?_ _))⟩

end Go.Proofs.Ytnclljamcfoolaa
