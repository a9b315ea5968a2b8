/- Walk of meter.Beats and meter.Higher at the first two tongues. -/
import Derived.Test.YtnclljamcfoolaaSpan
import Derived.Laws.ResultCell
import Derived.Laws.EntriesVeiled
namespace Go.Proofs.Ytnclljamcfoolaa
open Go.RowKit
set_option linter.unusedVariables false
set_option linter.unusedSimpArgs false

/-- a struct that lies in the first result's block, and a second result -/
theorem ret_row_tmp {P : Program} {fn : Func} {R : Ending → World → Prop} {a : Act} {w : World} {p u : Tmp} {ty : TypeId} (h : fn.results = #[.cell p ty, .tmp u]) (g : Nat) (t : TypeId) (cs : Array Value) (d : TypeDesc)
    (hp : a.tmps.getD p undef = .pointer (some ⟨g, 0, none⟩)) (hg : w.heap[g]? = some (.cells cs t (0, 0))) (hu : P.underlying ty = some d) (hd : (match d with | .struct _ | .array _ _ => true | _ => false) = true) (hi : (P.info? ty).map (·.size) = some cs.size)
    (hdf : a.defers = []) (hR : R (.returned (.tuple #[.agg cs, a.tmps.getD u undef])) w) : bodyPost P fn R .ret a w := by
  refine bodyPost_ret ?_ hdf hR
  rw [results_cell_tmp h, hp]
  simp [asAddr, Result.andThen, run_loadVar_row w g t ty cs (0, 0) d hg hu hd hi]
set_option maxRecDepth 100000 in
set_option maxHeartbeats 1000000 in
theorem Beats01 (e : Ear) (b o c1 : Nat) (A2 : Option Addr) (c2 : Nat) (s : Int) (hs : 1 ≤ s ∧ s ≤ 20) (he : earErr e = 0) (hr : e.reads = []) (hn : 2 ≤ e.tones.length) (hn9 : e.tones.length ≤ 1000000) (hok : ∀ t ∈ allTruths (fun _ => true) e, t.Ok) (hlen : (allTruths (fun _ => true) e).length ≤ 1000000) (w : World) (h1 : Row Rg.cs 2 w (some ⟨b, o, none⟩) e.tones) (hb : b < w.heap.size) :
    Calls Try.prog 10 #[.agg #[.int .i64 e.slack, .slice (some ⟨b, o, none⟩) e.tones.length c1, .slice A2 0 c2], .int .i64 0, .int .i64 1, .int .i64 s] w fun ed w' => ed = .returned (.tuple #[.agg #[.int .i64 (mnOf (tbOf s) (allTruths (fun _ => true) e) (tbOf s ((allTruths (fun _ => true) e)[0]'(allTruths_pos he)))), .int .i64 (mxOf (tbOf s) (allTruths (fun _ => true) e) (tbOf s ((allTruths (fun _ => true) e)[0]'(allTruths_pos he))))], .int .i64 0]) ∧ Below w.heap.size w w' := by
  have h2 : twoErr e.tones.length 0 1 = 0 := by unfold twoErr; simp [inB_false]; omega
  have hT := Lib.hid (fun v w hv => two_calls e.slack (some ⟨b, o, none⟩) e.tones.length c1 v 0 1 hn9 w hv)
  rw [h2] at hT
  have hpos := allTruths_pos he
  have hin : inB s 1 20 = true := by simp [inB]; omega
  go_enter Try.func10, Try.ntmps10
  go_upto_region 1 with (fail)
  generalize hW : ((((w.alloc _).alloc _).alloc _).alloc _).alloc _ = W
  generalize h5_ : w.heap.size + 1 + 1 + 1 + 1 = g5
  generalize h4_ : w.heap.size + 1 + 1 + 1 = g4
  generalize h3_ : w.heap.size + 1 + 1 = g3
  generalize h2_ : w.heap.size + 1 = g2
  generalize h1_ : w.heap.size = g1
  obtain ⟨hB0_, Hg1, Hg2, Hg3, Hg4, Hg5, kg1, kg2, kg3, kg4, kg5, fg1, fg2, fg3, fg4, fg5, lg1, lg2, lg3, lg4, lg5, bg1, bg2, bg3, bg4, bg5, ng12, ng13, ng14, ng15, ng21, ng23, ng24, ng25, ng31, ng32, ng34, ng35, ng41, ng42, ng43, ng45, ng51, ng52, ng53, ng54⟩ := gen5 w _ _ _ _ _ _ _ _ _ _ hW h5_ h4_ h3_ h2_ h1_
  clear hW h1_ h2_ h3_ h4_ h5_
  have H0W := Lib.hid hB0_
  clear hB0_
  have HHg1 := Lib.hid Hg1
  have HHg2 := Lib.hid Hg2
  have HHg3 := Lib.hid Hg3
  have HHg4 := Lib.hid Hg4
  have HHg5 := Lib.hid Hg5
  clear Hg1 Hg2 Hg3 Hg4 Hg5
  have HB := Lib.hid (Below.refl W.heap.size W)
  have HR := Lib.hid (h1.below H0W.out)
  have hbW : b < W.heap.size := Nat.lt_of_lt_of_le hb H0W.out.size
  clear h1
  have hv : ∃ A m c, Value.slice A2 0 c2 = .slice A m c := ⟨_, _, _, rfl⟩
  go_upto_region 2 with (first
    | ((with_reducible refine ld_gate 41 rfl ?_); refine wpList_load_row rfl 41 _ rfl g1 rfl 41 _ (0, 0) _ ((HB.out.block _ lg1).trans HHg1.out) Try.underlying41 rfl size41 ?_)
    | (go_at_call 41; with_reducible refine (hT.out _ _ hv).mono ?_; rintro e_ w1 ⟨rfl, hb_⟩; have HB_ := Lib.hid (bl_then2 (by (repeat (with_reducible first | exact HB.out | apply bl_alloc2 | apply bl_drew2 | apply bl_drewN2))) hb_); clear HB hb_; (try clear hq); have HB := HB_; clear HB_; have hq := CB.of HB.out))
  go_upto_region 4 with (first | (go_at_call 42; (with_reducible refine (in_calls _ _ _ _).mono ?_); rintro e_ w2 ⟨rfl, rfl⟩; rw [hin]))
  go_upto_region 7 with (first
    | ((with_reducible refine ld_gate 41 rfl ?_); refine wpList_load_row rfl 41 _ rfl g1 rfl 41 _ (0, 0) _ ((HB.out.block _ lg1).trans HHg1.out) Try.underlying41 rfl size41 ?_)
    | (go_at_call 43; refine (ask_calls e b o c1 A2 c2 he hr _ (HR.out.below HB.out) (Nat.lt_of_lt_of_le hbW HB.out.size)).mono ?_; rintro e_ w1 ⟨v, rfl, hr_, hb_⟩; obtain ⟨gq, capq, hvq⟩ := row_slice hr_ hpos; subst hvq; have HO := Lib.hid hr_; have hsz := HB.out.size; clear hr_; have HB_ := Lib.hid (bl_then2 (by (repeat (with_reducible first | exact HB.out | apply bl_alloc2 | apply bl_drew2 | apply bl_drewN2))) hb_); clear HB hb_; (try clear hq); have HB := HB_; clear HB_; have hq := CB.of HB.out))
  have hR := Lib.hid (span45 (allTruths (fun _ => true) e) hok gq capq g2 g3 g4 s hs hlen hpos)
  go_wp2_with (first
    | (go_at_call 44; refine (hR.out _ (row_of_own (enc := T3.cs) (sz := 3) (fun _ => rfl) HO.out) ((hq.1 _ 0 lg2).trans (kg2 0)) ((hq.1 _ 0 lg3).trans (kg3 0)) ((hq.1 _ 0 lg4).trans (kg4 0))).mono ?_; rintro e_ w1 ⟨rfl, hb_⟩; have HB_ := Lib.hid (bl_then2 (by (repeat (with_reducible first | exact HB.out | apply bl_alloc2 | apply bl_drew2 | apply bl_drewN2))) hb_); clear HB hb_; (try clear hq); have HB := HB_; clear HB_; have hq := CB.of HB.out)
    | ((with_reducible refine st_gate 26 rfl ?_); refine wpList_store_row rfl 26 _ _ rfl g5 _ rfl rfl 26 _ ((HB.out.block _ lg5).trans HHg5.out) size26m (by simp) (by simp [Value.oneCell']) ?_))
  exact ret_row_tmp rfl g5 26 _ _ rfl (setRow_heap ((HB.out.block _ lg5).trans HHg5.out)) Try.underlying26 rfl size26m rfl ⟨rfl, bl_setRow (bl_then H0W.out HB.out) bg5 _⟩

end Go.Proofs.Ytnclljamcfoolaa
