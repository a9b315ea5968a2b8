/- Walks of the library's slices.AppendSeq and slices.Collect at tones. -/
import Derived.Test.YtnclljamcfoolaaRange
import Derived.Maps.OwnIn
import Derived.Test.YtnclljamcfoolaaTruths2
namespace Go.Proofs.Ytnclljamcfoolaa
open Go.RowKit Go.Shelf Go.Maps
attribute [local go_sem] Oper.semAt_some
set_option linter.unusedVariables false

theorem info93 : (Try.prog.info? 93).map (fun i => (i.zero, i.size, i.bytes)) = some (some (.agg #[.int .i64 0, .int .i64 0, .int .i64 0]), 3, 24) := by kernel_rfl

/-- what AppendSeq's body owns: the box Bs of its slice, and the slice's own row -/
def apOwn (Bs : Nat) (W : World) (k : Nat) : Prop := k = Bs ∨ ∃ v, W.cell? ⟨Bs, 0, none⟩ = some v ∧ v.ownBlock = some k
theorem apOwn_ok (Bs : Nat) : OwnOk (apOwn Bs) := fun W W' hw hs hk k => by
  unfold apOwn
  have hc : W'.cell? ⟨Bs, 0, none⟩ = W.cell? ⟨Bs, 0, none⟩ := World.cell?_of_block (w := W) (a := ⟨Bs, 0, none⟩) (hk Bs (.inl rfl))
  rw [hc]
structure ApI (w : World) (ss : List T3) (W : World) : Prop where
  box : ∃ v, W.heap[w.heap.size]? = some (.cells #[v] 88 (0, 0)) ∧ W.ownsRow (w.heap.size + 1) 93 3 v ss.length (flat T3.cs ss) ∧ (v.ownBlock = none ∨ ∃ k, v.ownBlock = some k ∧ w.heap.size + 3 ≤ k)
  below : Below w.heap.size w W
theorem ApI.wf {w : World} {ss : List T3} {W : World} (h : ApI w ss W) : WfOwn (apOwn w.heap.size) W := fun k hk => by
  obtain ⟨v, hv, hr, hb⟩ := h.box
  rcases hk with rfl | ⟨v', hc, hk⟩
  · exact (Array.getElem?_eq_some_iff.1 hv).1
  · rw [cell_of_row _ _ _ _ _ _ hv] at hc
    obtain rfl : v = v' := by simpa using hc
    exact (hr.lt k hk).2
theorem ApI.step {w : World} {ss : List T3} {W W' : World} (h : ApI w ss W) {B : Nat} (hB : w.heap.size ≤ B) (hs : IterStep (apOwn w.heap.size) B W W') : ApI w ss W' := by
  have hwf := h.wf
  obtain ⟨v, hv, hr, hb⟩ := h.box
  have hlt := (Array.getElem?_eq_some_iff.1 hv).1
  have hc := cell_of_row _ _ 0 _ _ _ hv
  refine ⟨⟨v, (hs.keep _ hlt (.inl (.inl rfl))).trans hv, ?_, hb⟩, ⟨hs.os.trans h.below.os, hs.tape.trans h.below.tape, hs.output.trans h.below.output, Nat.le_trans h.below.size hs.size, fun k hk => (hs.keep k (Nat.lt_of_lt_of_le hk h.below.size) (.inr (Nat.lt_of_lt_of_le hk hB))).trans (h.below.block k hk)⟩⟩
  obtain ⟨h1, h2 | ⟨g, cap, cur, rfl, h4, h5, h6⟩⟩ := hr
  · exact ⟨h1, .inl h2⟩
  · have hg : apOwn w.heap.size W g := .inr ⟨_, hc, rfl⟩
    exact ⟨h1, .inr ⟨g, cap, cur, rfl, h4, (hs.keep g (hwf g hg) (.inl hg)).trans h5, h6⟩⟩

set_option maxRecDepth 100000 in
set_option maxHeartbeats 4000000 in
theorem appendSeq_in (F : Fence) (n : Nat) (h109 : F.fn 109) (hro : F.round = none) (hn : 2 ≤ n) (g : Nat) (lb : Array Value) (hFg : F.fn g) (eg : ∀ args w, (callFunc g args).run Try.prog w = .ok (.enter g args) w)
    (S : List T3 → Prop) (N : Nat) (hN : N ≤ maxLen) (hNb : N * 24 ≤ 140737488355328) (w : World) (hseq : SeqO F (n - 1) Try.prog g lb T3.v S N w) :
    CallsIn F n Try.prog 109 #[.slice none 0 0, .func (.func g) #[] lb] w fun e w' => ∃ (v : Value) (ss : List T3), e = .returned v ∧ S ss ∧ w'.ownsRow w.heap.size 93 3 v ss.length (flat T3.cs ss) ∧ Below w.heap.size w w' := by
  have h1 : 1 ≤ n := by omega
  obtain ⟨i0, hi, hz0, hz1, hz2⟩ := info_parts info93
  refine callsIn_of_wp_marks Try.func109 rfl h109 ?_ hro
  simp only [Try.ntmps109, List.size_toArray, List.length_cons, List.length_nil, Nat.reduceAdd, Nat.reduceSub, Array.replicate_succ, Array.replicate_zero, List.push_toArray, List.append_toArray, List.nil_append, List.cons_append]
  gi_wp2
  obtain ⟨W0, hW0⟩ : ∃ W0, w.alloc (.cells #[.slice none 0 0] 88) = W0 := ⟨_, rfl⟩
  have hs0 : W0.heap.size = w.heap.size + 1 := by rw [← hW0]; simp
  have hv0 : W0.heap[w.heap.size]? = some (.cells #[.slice none 0 0] 88 (0, 0)) := by rw [← hW0]; exact World.alloc_heap_new w _
  have hb0 : Below w.heap.size w W0 := by rw [← hW0]; exact (Below.refl _ w).alloc (Nat.le_refl _) _
  rw [hW0]
  refine rangeO hro h1 rfl hFg eg hseq hb0 rfl (apOwn w.heap.size) (apOwn_ok _) ?own2 (fun pre W => ApI w pre W) (fun s W hz hI => hI.wf) (fun s W1 W2 hz hI hst => hI.step (by omega) hst) ?own1 ?start
    (fun x a' W => ∃ gv, w.heap.size + 3 ≤ gv ∧ W.heap[gv]? = some (.cells #[.int .i64 x.a, .int .i64 x.b, .int .i64 x.c] 93 (0, 0)) ∧ a' = { tmps := #[.slice none 0 0, .func (.func g) #[] lb, .pointer (some ⟨w.heap.size, 0, none⟩), undef, .slice none 0 0, .pointer (some ⟨gv, 0, none⟩), .func (.func g) #[] lb, x.v, undef, undef, undef, undef, undef], defers := [] })
    ?ax ?assign ?body ?done
  case own1 =>
    intro s W hz hI k hk
    obtain ⟨v, hv, hr, hb⟩ := hI.box
    rcases hk with rfl | ⟨v', hc, hk⟩
    · omega
    · rw [cell_of_row _ _ _ _ _ _ hv] at hc
      obtain rfl : v = v' := by simpa using hc
      rcases hb with hb | ⟨k', hb, hb2⟩
      · rw [hb] at hk; cases hk
      · rw [hb] at hk; obtain rfl := Option.some.inj hk; omega
  case own2 =>
    intro k hk
    rcases hk with rfl | ⟨v', hc, hk⟩
    · exact Nat.le_refl _
    · rw [cell_of_row _ _ _ _ _ _ hv0] at hc
      obtain rfl : Value.slice none 0 0 = v' := by simpa using hc
      cases hk
  case start => exact ⟨⟨_, hv0, own_nil _ _ _ _, .inl rfl⟩, hb0⟩
  case ax =>
    rintro x a' W1 W2 ⟨gv, hgv, hc, rfl⟩ hk hz
    exact ⟨gv, hgv, (hk gv (by omega)).trans hc, rfl⟩
  case assign =>
    intro l pre x W K hz hI hK
    gi_wp2
    exact hK _ _ (bl_alloc (Below.refl _ W) _) ⟨W.heap.size, by omega, heap_alloc_new W _, rfl⟩
  case body =>
    rintro l pre x a' W hz hI ⟨gv, hgv, hcv, rfl⟩ hlen
    have hwf := hI.wf
    obtain ⟨v, hv, hrow, hbk⟩ := hI.box
    have hc1 := fun k => cell_of_row W gv k _ _ _ hcv
    have hc2 := fun k => cell_of_row W w.heap.size k _ _ _ hv
    have HV := Lib.hid hv
    have hBlt : w.heap.size < W.heap.size := (Array.getElem?_eq_some_iff.1 hv).1
    clear hv
    gi_wp2_with (gi_at_builtin; refine wpListIn_append_own_at _ rfl _ _ 88 rfl (w.heap.size + 1) 93 i0 _ 3 24 Try.underlying88 hi hz0 hz1 hz2 rfl (by decide) v pre.length (flat T3.cs pre) rfl (hrow.alloc _) ⟨W.heap.size, 0, none⟩ 1 1 (T3.cs x) rfl rfl (World.news_of_block (cs := #[.int .i64 x.a, .int .i64 x.b, .int .i64 x.c]) (t := 93) (fr := (0, 0)) (heap_alloc_new _ _)) ?a1 ?a2 ?a3 ?a4 ?_)
    case a1 => simp [Value.oneCell', T3.cs]
    case a2 => omega
    case a3 => omega
    case a4 => simp; omega
    intro v' w3 hown' hgrow _ hat
    obtain ⟨g', cap', rfl⟩ := ownsRow_succ hown'
    have hne : some w.heap.size ≠ v.ownBlock := fun e => by
      have := (hrow.lt _ e.symm).1; omega
    have hv3 : w3.heap[w.heap.size]? = some (.cells #[v] 88 (0, 0)) := (hgrow.block w.heap.size (by simp; omega) hne).trans ((Below.heap_alloc _ _ _ hBlt).trans HV.out)
    have hc3 := cell_of_row w3 w.heap.size 0 _ _ _ hv3
    have hf3 := frozen_row hv3 0
    gi_wp2
    have hg4 : Wrote w3 (w3.setCell ⟨w.heap.size, 0, none⟩ (.slice (some ⟨g', 0, none⟩) (pre.length + 1) cap')) w.heap.size := wrote_setCell _ _ _ _
    have hv4 : (w3.setCell ⟨w.heap.size, 0, none⟩ (.slice (some ⟨g', 0, none⟩) (pre.length + 1) cap')).heap[w.heap.size]? = some (.cells #[.slice (some ⟨g', 0, none⟩) (pre.length + 1) cap'] 88 (0, 0)) := by
      rw [setCell_eq_setRow w3 w.heap.size 0 _ _ _ _ hv3]; exact setRow_heap hv3
    have hz3 : W.heap.size + 1 ≤ w3.heap.size := by have := hgrow.size; simp at this; omega
    have hgb : v.ownBlock = some g' ∨ g' = W.heap.size + 1 := by
      rcases hat with h | h
      · exact .inl h.symm
      · exact .inr (by simpa [Value.ownBlock] using h)
    generalize hW4 : w3.setCell ⟨w.heap.size, 0, none⟩ (.slice (some ⟨g', 0, none⟩) (pre.length + 1) cap') = W4 at hg4 hv4 ⊢
    have hown : ∀ k, apOwn w.heap.size W k ↔ (k = w.heap.size ∨ v.ownBlock = some k) := fun k => by
      unfold apOwn; rw [hc2 0]; simp
    have hown4 : ∀ k, apOwn w.heap.size W4 k ↔ (k = w.heap.size ∨ g' = k) := fun k => by
      unfold apOwn; rw [cell_of_row W4 w.heap.size 0 _ _ _ hv4]; simp [Value.ownBlock]
    refine ⟨⟨by have := hg4.size; omega, ?_, ?_⟩, ⟨⟨_, hv4, ?_, ?_⟩, ?_⟩⟩
    · intro k hk
      rcases (hown4 k).1 hk with h | h
      · exact .inl ((hown k).2 (.inl h))
      · rcases hgb with h' | h'
        · exact .inl ((hown k).2 (.inr (by rw [h', h])))
        · exact .inr (by omega)
    · intro k hk hn
      have h1 : k ≠ w.heap.size := fun h => hn ((hown k).2 (.inl h))
      have h2 : some k ≠ v.ownBlock := fun h => hn ((hown k).2 (.inr h.symm))
      exact (hg4.block k h1).trans ((hgrow.block k (by simp; omega) h2).trans (Below.heap_alloc _ _ _ hk))
    · rw [flat_snoc]
      have hne' : g' ≠ w.heap.size := by
        rcases hgb with h' | h'
        · intro e; exact hne (by rw [h', e])
        · omega
      simp only [List.length_append, List.length_cons, List.length_nil]
      obtain ⟨q1, q2 | ⟨gq, capq, curq, q3, q4, q5, q6⟩⟩ := hown'
      · cases q2.1
      · obtain ⟨rfl, rfl⟩ : g' = gq ∧ cap' = capq := by simpa using q3
        exact ⟨q1, .inr ⟨g', cap', curq, rfl, q4, (hg4.block g' hne').trans q5, q6⟩⟩
    · refine .inr ⟨g', rfl, ?_⟩
      rcases hgb with h' | h'
      · rcases hbk with hb | ⟨k', hb, hb2⟩
        · rw [hb] at h'; cases h'
        · rw [hb] at h'; obtain rfl := Option.some.inj h'; exact hb2
      · omega
    · have hb3 : Below w.heap.size w w3 := bl_grown (bl_alloc hI.below _) (bl_alloc hI.below _).size hgrow (fun q hq => by have := (hrow.lt q hq).1; omega)
      exact hg4.below hb3 (Nat.le_refl _)
  case done =>
    intro xs W hz hS hI hK
    obtain ⟨v, hv, hrow, hbk⟩ := hI.box
    have hc2 := fun k => cell_of_row W w.heap.size k _ _ _ hv
    gi_wp2
    refine ⟨by simp, .inl ⟨_, _, rfl, run_takeDeferred hK, ?_⟩⟩
    refine ⟨_, results_tmp rfl _ _ _, v, xs, rfl, hS, own_weaken (ownsRow_putObj hrow _ hK rfl) (by omega), ?_⟩
    exact (wrote_putObj W W0.heap.size (.deferred none)).below hI.below (by omega)

end Go.Proofs.Ytnclljamcfoolaa
