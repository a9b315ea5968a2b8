/- The law of a loop over an iterator that keeps variables of its own in memory. -/
import Derived.Test.YtnclljamcfoolaaIter
namespace Go.Proofs.Ytnclljamcfoolaa
open Go.RowKit Go.Shelf
set_option linter.unusedVariables false
variable {F : Fence} {n : Nat} {P : Program} {w : World}

def ownT (own0 : World → Nat → Prop) (D : Nat) (W : World) (k : Nat) : Prop := own0 W k ∨ k = D ∨ k = D + 1
theorem ownT_wf {own0 : World → Nat → Prop} {D : Nat} {W : World} (h : WfOwn own0 W) (hD : D + 2 ≤ W.heap.size) : WfOwn (ownT own0 D) W := fun k hk => by
  rcases hk with hk | hk | hk
  · exact h k hk
  · omega
  · omega
theorem ownT_ok {own0 : World → Nat → Prop} {D : Nat} (ho : OwnOk own0) : OwnOk (ownT own0 D) := fun W W' hw hs hk k => by
  have := ho W W' (fun k h => hw k (.inl h)) hs (fun k h => hk k (.inl h)) k
  unfold ownT
  rw [this]
theorem wrote_putObj (W : World) (l : Nat) (o : Obj) : Wrote W (W.putObj l o) l :=
  ⟨rfl, rfl, rfl, by simp, fun k hk => World.putObj_heap_other hk⟩
theorem IterStep.put {own0 : World → Nat → Prop} {B : Nat} {W : World} {l : Nat} (hn : ¬ own0 W l) (hB : B ≤ l) (o : Obj) : IterStep own0 B W (W.putObj l o) := IterStep.wrote (wrote_putObj W l o) hn hB
theorem IterStep.of_new {own : World → Nat → Prop} {B : Nat} {W W' : World} (h : Below W.heap.size W W') : IterStep own B W W' := ⟨h.os, h.tape, h.output, h.size, fun k hk _ => h.block k hk⟩

set_option maxHeartbeats 1000000 in
theorem rangeO {α : Type} {g : Operand} {ps : Array Tmp} {assign body : Code} {Q : Exit → Act → World → Prop} {a : Act}
    (hro : F.round = none) (h1 : 1 ≤ n) {gf : Nat} {lb : Array Value} (hg : a.eval g = .func (.func gf) #[] lb) (hFg : F.fn gf) (eg : ∀ args w, (callFunc gf args).run P w = .ok (.enter gf args) w)
    {enc : α → Value} {S : List α → Prop} {N : Nat} {w0 : World} (hseq : SeqO F (n - 1) P gf lb enc S N w0) (hb0 : Below w0.heap.size w0 w) (hps : ps.size = 1)
    (own0 : World → Nat → Prop) (ho : OwnOk own0) (hown0 : ∀ k, own0 w k → w0.heap.size ≤ k)
    (I : List α → World → Prop) (hWf : ∀ s W, w.heap.size ≤ W.heap.size → I s W → WfOwn own0 W) (hI : ∀ s W1 W2, w.heap.size ≤ W1.heap.size → I s W1 → IterStep own0 w.heap.size W1 W2 → I s W2) (hown : ∀ s W, w.heap.size + 2 ≤ W.heap.size → I s W → ∀ k, own0 W k → k ≠ w.heap.size ∧ k ≠ w.heap.size + 1) (h0 : I [] w) (Ax : α → Act → World → Prop)
    (hAx : ∀ x a' W1 W2, Ax x a' W1 → (∀ k, k ≠ w.heap.size + 1 → W2.heap[k]? = W1.heap[k]?) → w.heap.size + 2 ≤ W1.heap.size → Ax x a' W2)
    (hassign : ∀ (l : Nat) (pre : List α) (x : α) (W : World) (K : Act → World → Prop), w.heap.size + 2 ≤ W.heap.size → I pre W → (∀ a' W', Below W.heap.size W W' → Ax x a' W' → K a' W') →
      assign.wpIn (F.inRound l) (n - 1 - 1) P (Exit.then K (fun _ _ _ => False)) { tmps := (ps.zip #[enc x]).foldl (fun t (p, v) => t.setIfInBounds p v) a.tmps, defers := [] } W)
    (hbody : ∀ (l : Nat) (pre : List α) (x : α) (a' : Act) (W : World), w.heap.size + 2 ≤ W.heap.size → I pre W → Ax x a' W → pre.length < N →
      body.wpIn (F.inRound l) (n - 1 - 1) P (fun e _ W' => e = .normal ∧ BodyStep own0 W W' ∧ I (pre ++ [x]) W') a' W)
    (hdone : ∀ (xs : List α) (W : World), w.heap.size + 2 ≤ W.heap.size → S xs → I xs W → W.heap[w.heap.size]? = some (.deferred (some [])) → Q .normal { a with defers := { target := .collected w.heap.size, args := #[] } :: a.defers } W) :
    (Code.rangeFunc g ps assign body).wpIn F n P Q a w := by
  refine wpIn_rangeFunc ?_
  intro fn hfn
  rw [hro]
  obtain ⟨rec, hrec⟩ : ∃ rec : LoopState → Option Code → Loop, rec = fun st pe => { state := st, pending := pe, fn, tmps := a.tmps, params := ps, assign, body, defers := w.heap.size } := ⟨_, rfl⟩
  obtain ⟨W1, hW1⟩ : ∃ W1, (w.alloc (.deferred (some []))).alloc (.loop (rec .ready none)) = W1 := ⟨_, rfl⟩
  have hL1 : W1.heap[w.heap.size + 1]? = some (.loop (rec .ready none)) := by
    rw [← hW1]; have := World.alloc_heap_new (w.alloc (.deferred (some []))) (.loop (rec .ready none)); rwa [World.size_alloc] at this
  have hK1 : W1.heap[w.heap.size]? = some (.deferred (some [])) := by
    rw [← hW1]; exact (Below.heap_alloc _ _ _ (by simp)).trans (World.alloc_heap_new w _)
  have hz1 : W1.heap.size = w.heap.size + 2 := by rw [← hW1]; simp
  have hb01 : Below w.heap.size w W1 := by rw [← hW1]; exact ((Below.refl _ w).alloc (Nat.le_refl _) _).alloc (by simp) _
  have hI1 : I [] W1 := hI _ _ _ (Nat.le_refl _) h0 (IterStep.of_new hb01)
  have hb1 : Below w0.heap.size w0 W1 := hb0.trans (hb01.mono hb0.size)
  have hoT : OwnOk (ownT own0 w.heap.size) := ownT_ok ho
  have hw0 : WfOwn own0 w := hWf _ _ (Nat.le_refl _) h0
  refine ⟨w.heap.size + 1, [{ target := .collected w.heap.size, args := #[] }], W1, { target := .fn (.func gf) lb, args := #[.func (.yield (w.heap.size + 1)) #[] #[]] }, W1, gf,
    #[.func (.yield (w.heap.size + 1)) #[] #[]] ++ lb, W1, ?_, ?_, ?_, ?_, fun _ => h1, ?_⟩
  · rw [← hW1, hrec]; exact run_enterLoop_outer _ _ _ _ _
  · simp only [resolve, hg]
    simp [go_sem]
  · intro f' hf'; simp [Target.leads] at hf'; subst hf'; exact hFg
  · simp [invoke, go_sem, eg]
  · refine (hseq (w.heap.size + 1) (ownT own0 w.heap.size)
      (fun pre W => w.heap.size + 2 ≤ W.heap.size ∧ I pre W ∧ W.heap[w.heap.size + 1]? = some (.loop (rec .ready none)) ∧ W.heap[w.heap.size]? = some (.deferred (some [])))
      W1 hoT hb1 (fun k hk => ?_) (fun s A B hs hst => ?_) (fun s A hs => ownT_wf (hWf s A (by omega) hs.2.1) hs.1) ?_ ⟨by omega, hI1, hL1, hK1⟩).mono ?_
    · rcases hk with hk | hk | hk
      · exact hown0 k ((ho w W1 hw0 (by omega) (fun k h => hb01.block k (hw0 k h)) k).1 hk)
      · have := hb0.size; omega
      · have := hb0.size; omega
    · obtain ⟨hz, hi, hl, hk⟩ := hs
      refine ⟨Nat.le_trans hz hst.size, hI s A B (by omega) hi ⟨hst.os, hst.tape, hst.output, hst.size, fun k hk1 hk2 => hst.keep k hk1 ?_⟩, (hst.keep _ (by omega) (.inl (.inr (.inr rfl)))).trans hl, (hst.keep _ (by omega) (.inl (.inr (.inl rfl)))).trans hk⟩
      rcases hk2 with h | h
      · exact .inl (.inl h)
      · exact .inr (by omega)
    · rintro pre x W ⟨hz, hi, hl, hk⟩ hlen
      have hy := run_yield (P := P) (args := #[enc x]) hl (by rw [hrec]; exact hps.symm)
      rw [hrec] at hy
      refine ⟨fn, _, assign, body, hy, roundIn_of_wpIn hfn (hassign _ pre x W _ hz hi ?_)⟩
      clear hy
      intro a' Wa hba hax
      have hza : w.heap.size + 2 ≤ Wa.heap.size := Nat.le_trans hz hba.size
      have hla : Wa.heap[w.heap.size + 1]? = some (.loop (rec .ready none)) := (hba.block _ (by omega)).trans hl
      have hka : Wa.heap[w.heap.size]? = some (.deferred (some [])) := (hba.block _ (by omega)).trans hk
      have hia : I pre Wa := hI _ _ _ (by omega) hi (IterStep.of_new hba)
      refine ⟨_, run_beginRound hla (by rw [hrec]), ?_⟩
      obtain ⟨W2, hW2⟩ : ∃ W2, Wa.putObj (w.heap.size + 1) (.loop { rec .ready none with state := .busy }) = W2 := ⟨_, rfl⟩
      have hl2 : W2.heap[w.heap.size + 1]? = some (.loop { rec .ready none with state := .busy }) := by rw [← hW2]; exact World.putObj_heap_same (by omega)
      have hk2 : W2.heap[w.heap.size]? = some (.deferred (some [])) := by rw [← hW2]; exact (World.putObj_heap_other (by omega)).trans hka
      have hnla : ¬ own0 Wa (w.heap.size + 1) := fun h => (hown _ Wa hza hia _ h).2 rfl
      have hwr : Wrote Wa W2 (w.heap.size + 1) := by rw [← hW2]; exact wrote_putObj _ _ _
      have hz2 : w.heap.size + 2 ≤ W2.heap.size := by rw [hwr.size]; exact hza
      have hi2 : I pre W2 := hI _ _ _ (by omega) hia (IterStep.wrote hwr hnla (by omega))
      rw [hW2]
      refine wpIn_mono (hbody _ pre x a' W2 hz2 hi2 (hAx x a' Wa W2 hax (fun k hk => hwr.block k hk) hza) hlen) ?_
      rintro e a3 W3 ⟨rfl, hb3, hi3⟩
      have hz3 : w.heap.size + 2 ≤ W3.heap.size := Nat.le_trans hz2 hb3.size
      have hl3 : W3.heap[w.heap.size + 1]? = some (.loop { rec .ready none with state := .busy }) := (hb3.keep _ (by omega) (fun h => (hown _ W2 hz2 hi2 _ h).2 rfl)).trans hl2
      have hk3 : W3.heap[w.heap.size]? = some (.deferred (some [])) := (hb3.keep _ (by omega) (fun h => (hown _ W2 hz2 hi2 _ h).1 rfl)).trans hk2
      have hr := run_endRound (P := P) none hl3
      obtain ⟨W4, hW4⟩ : ∃ W4, W3.putObj (w.heap.size + 1) (.loop (rec .ready none)) = W4 := ⟨_, rfl⟩
      have hwr4 : Wrote W3 W4 (w.heap.size + 1) := by rw [← hW4]; exact wrote_putObj _ _ _
      have hnl3 : ¬ own0 W3 (w.heap.size + 1) := fun h => (hown _ W3 hz3 hi3 _ h).2 rfl
      have hr' : (Instr.endRound (w.heap.size + 1) none).run P W3 = .ok (.bool (none : Option Code).isNone) W4 := by
        rw [← hW4]; rw [hrec] at hr ⊢; exact hr
      have e1 : ∀ k, own0 Wa k ↔ own0 W k := fun k => ho W Wa (hWf _ _ (by omega) hi) hba.size (fun k h => hba.block k (hWf _ _ (by omega) hi k h)) k
      have e2 : ∀ k, own0 W2 k ↔ own0 Wa k := fun k => IterStep.own ho (hWf _ _ (by omega) hia) (IterStep.wrote (B := 0) hwr hnla (Nat.zero_le _)) k
      have e4 : ∀ k, own0 W4 k ↔ own0 W3 k := fun k => IterStep.own ho (hWf _ _ (by omega) hi3) (IterStep.wrote (B := 0) hwr4 hnl3 (Nat.zero_le _)) k
      refine ⟨_, W4, hr', rfl, ⟨by rw [hwr4.size]; exact hz3, hI _ _ _ (by omega) hi3 (IterStep.wrote hwr4 hnl3 (by omega)), by rw [← hW4]; exact World.putObj_heap_same (by omega), by rw [← hW4]; exact (World.putObj_heap_other (by omega)).trans hk3⟩, ?_, ?_, ?_⟩
      · have := hba.size; have := hwr.size; have := hb3.size; have := hwr4.size; omega
      · rintro k (h | h | h)
        · rcases hb3.owns k ((e4 k).1 h) with h' | h'
          · exact .inl (.inl ((e1 k).1 ((e2 k).1 h')))
          · exact .inr (by have := hba.size; have := hwr.size; omega)
        · exact .inl (.inr (.inl h))
        · exact .inl (.inr (.inr h))
      · intro k hk4 hn4
        have hnl : k ≠ w.heap.size + 1 := fun h => hn4 (.inr (.inr h))
        have hn0 : ¬ own0 W k := fun h => hn4 (.inl h)
        rw [hwr4.block k hnl, hb3.keep k (by have := hba.size; have := hwr.size; omega) (fun h => hn0 ((e1 k).1 ((e2 k).1 h))), hwr.block k hnl, hba.block k hk4]
    · rintro e W2 ⟨⟨v, rfl⟩, xs, hS, hz, hi, hl, hk⟩
      exact ⟨none, _, by have := run_endLoop (P := P) hl (by rw [hrec]; simp); rw [hrec] at this; exact this, hdone xs _ (by simp; exact hz) hS (hI _ _ _ (by omega) hi (IterStep.put (fun h => (hown _ W2 hz hi _ h).2 rfl) (by omega) _)) ((World.putObj_heap_other (by omega)).trans hk)⟩

end Go.Proofs.Ytnclljamcfoolaa
