/- Walk of package voice: a job without pitch. -/
import Derived.Test.YtnclljamcfoolaaVoice2
import Derived.RegionTactic
import Derived.BigRegion
namespace Go.Proofs.Ytnclljamcfoolaa
open Go.RowKit
set_option linter.unusedVariables false

theorem size26 : (Try.prog.info? 26).map (·.size) = some 2 := by kernel_rfl
theorem size3 : (Try.prog.info? 3).map (·.size) = some 1 := by kernel_rfl
set_option maxRecDepth 100000 in
set_option maxHeartbeats 4000000 in
theorem blank5_calls (b : Box) (A1 A2 : Option Addr) (c1 c2 : Nat) (w : World) :
    Calls Try.prog 101 #[b.v A1 c1 A2 c2] w fun e w' => e = .returned ((blankOf b).v none 0) ∧ Below w.heap.size w w' := by
  unfold Box.v Job.v blankOf
  dsimp only [List.length_nil]
  go_enter Try.func101, Try.ntmps101
  go_upto_region 2 with (fail)
  go_region
  generalize hW : ((w.alloc _).alloc _).alloc _ = W
  generalize h3_ : w.heap.size + 1 + 1 = g3
  generalize h2_ : w.heap.size + 1 = g2
  generalize h1_ : w.heap.size = g1
  obtain ⟨hB0_, Hg1, Hg2, Hg3, kg1, kg2, kg3, fg1, fg2, fg3, lg1, lg2, lg3, bg1, bg2, bg3, ng12, ng13, ng21, ng23, ng31, ng32⟩ := gen3 w _ _ _ _ _ _ hW h3_ h2_ h1_
  clear hW h1_ h2_ h3_
  have H0W := Lib.hid hB0_
  clear hB0_
  have HHg1 := Lib.hid Hg1
  have HHg2 := Lib.hid Hg2
  have HHg3 := Lib.hid Hg3
  clear Hg1 Hg2 Hg3
  have HB := Lib.hid (bl_drew (Below.refl W.heap.size W))
  go_wp2_with (first
    | ((with_reducible refine ld_gate 51 rfl ?_); refine wpList_load_row rfl 51 _ rfl g3 rfl 51 _ (0, 0) _ ((HB.out.block _ lg3).trans HHg3.out) Try.underlying51 rfl size51 ?_)
    | ((with_reducible refine st_gate 51 rfl ?_); refine wpList_store_row rfl 51 _ _ rfl g2 _ rfl rfl 51 _ ((HB.out.block _ lg2).trans HHg2.out) size51 (by simp) (by simp [Value.oneCell']) ?_))
  exact ret_row rfl g2 51 _ _ rfl (setRow_heap ((HB.out.block _ lg2).trans HHg2.out)) Try.underlying51 rfl size51 rfl ⟨rfl, bl_setRow (bl_then H0W.out HB.out) bg2 _⟩

end Go.Proofs.Ytnclljamcfoolaa
