/- A range over an iterator that keeps variables of its own in memory: what the loop's body owns, and what the iterator owns, are told apart. The law of a loop over an iterator that keeps variables of its own in memory. Walks of package meter: the iterator over all truths of an ear without readings. Walks of package meter: all truths of an ear without readings, collected. Walks of the library's slices.AppendSeq and slices.Collect at tones. -/
import Derived.Test.YtnclljamcfoolaaHd1
import Derived.RangeFuncNested
import Derived.RangeFuncBound
import Derived.RangeFuncCalls
import Derived.RangeFuncLeaves
import Derived.RangeFuncGives
import Derived.Shelf.Abstract
import Derived.Shelf.RegionOpen
import Derived.OwnWalkIn
import Derived.TacticsInMore
import Derived.LoopNIn
import Derived.LoopIn
import Derived.Maps.AppendAt
import Derived.Laws.EntriesVeiled
import Derived.Maps.OwnIn
namespace Go.Proofs.Ytnclljamcfoolaa
open Go.RowKit Go.Shelf
set_option linter.unusedVariables false
set_option linter.unusedSimpArgs false

/-- What the body of a loop owns lies in the heap. -/
def WfOwn (own : World → Nat → Prop) (W : World) : Prop := ∀ k, own W k → k < W.heap.size
/-- What the body of a loop owns hangs on those blocks alone. -/
def OwnOk (own : World → Nat → Prop) : Prop :=
  ∀ W W', WfOwn own W → W.heap.size ≤ W'.heap.size → (∀ k, own W k → W'.heap[k]? = W.heap[k]?) → ∀ k, own W' k ↔ own W k

/-- A step of the iterator's: the body's blocks lie as they lay, and so do all below B. -/
structure IterStep (own : World → Nat → Prop) (B : Nat) (W W' : World) : Prop where
  os : W'.os = W.os
  tape : W'.tape = W.tape
  output : W'.output = W.output
  size : W.heap.size ≤ W'.heap.size
  keep : ∀ k, k < W.heap.size → (own W k ∨ k < B) → W'.heap[k]? = W.heap[k]?

/-- A step of the body's: what it does not own lies as it lay; it owns no old block that it did not own. -/
structure BodyStep (own : World → Nat → Prop) (W W' : World) : Prop where
  size : W.heap.size ≤ W'.heap.size
  owns : ∀ k, own W' k → own W k ∨ W.heap.size ≤ k
  keep : ∀ k, k < W.heap.size → ¬ own W k → W'.heap[k]? = W.heap[k]?

theorem BodyStep.refl (own : World → Nat → Prop) (W : World) : BodyStep own W W := ⟨Nat.le_refl _, fun _ h => .inl h, fun _ _ _ => rfl⟩
theorem BodyStep.trans {own : World → Nat → Prop} {W W1 W2 : World} (h : BodyStep own W W1) (k : BodyStep own W1 W2) : BodyStep own W W2 :=
  ⟨Nat.le_trans h.size k.size, fun b hb => by
      rcases k.owns b hb with h1 | h1
      · exact h.owns b h1
      · exact .inr (Nat.le_trans h.size h1),
    fun b hb hn => by
      have hn1 : ¬ own W1 b := fun h1 => by
        rcases h.owns b h1 with h2 | h2
        · exact hn h2
        · omega
      exact (k.keep b (Nat.lt_of_lt_of_le hb h.size) hn1).trans (h.keep b hb hn)⟩
/-- What the iterator does by itself, as a step. -/
theorem BodyStep.of_same {own : World → Nat → Prop} (ho : OwnOk own) {W W' : World} (hB : WfOwn own W) (hs : W.heap.size ≤ W'.heap.size) (hk : ∀ k, k < W.heap.size → W'.heap[k]? = W.heap[k]?) : BodyStep own W W' :=
  ⟨hs, fun k h => .inl ((ho W W' hB hs (fun k h => hk k (hB k h)) k).1 h), fun k h _ => hk k h⟩
theorem BodyStep.cell {own : World → Nat → Prop} {W W' : World} (h : BodyStep own W W') {b : Nat} (hb : b < W.heap.size) (hn : ¬ own W b) (o : Nat) : W'.cell? ⟨b, o, none⟩ = W.cell? ⟨b, o, none⟩ :=
  World.cell?_of_block (w := W) (a := ⟨b, o, none⟩) (h.keep b hb hn)
theorem BodyStep.frozen {own : World → Nat → Prop} {W W' : World} (h : BodyStep own W W') {b : Nat} (hb : b < W.heap.size) (hn : ¬ own W b) (o : Nat) : W'.frozen? ⟨b, o, none⟩ = W.frozen? ⟨b, o, none⟩ :=
  World.frozen?_of_block (w := W) (a := ⟨b, o, none⟩) (h.keep b hb hn)
theorem BodyStep.not_own {own : World → Nat → Prop} {W W' : World} (h : BodyStep own W W') {b : Nat} (hb : b < W.heap.size) (hn : ¬ own W b) : ¬ own W' b := fun h1 => by
  rcases h.owns b h1 with h2 | h2
  · exact hn h2
  · omega

theorem IterStep.refl (own : World → Nat → Prop) (B : Nat) (W : World) : IterStep own B W W := ⟨rfl, rfl, rfl, Nat.le_refl _, fun _ _ _ => rfl⟩
theorem IterStep.alloc (own : World → Nat → Prop) (B : Nat) (W : World) (o : Obj) : IterStep own B W (W.alloc o) :=
  ⟨rfl, rfl, rfl, by simp, fun k hk _ => Below.heap_alloc W o k hk⟩
theorem IterStep.wrote {own : World → Nat → Prop} {B : Nat} {W W' : World} {g : Nat} (h : Wrote W W' g) (hn : ¬ own W g) (hB : B ≤ g) : IterStep own B W W' :=
  ⟨h.os, h.tape, h.output, by rw [h.size]; exact Nat.le_refl _, fun k hk hk2 => h.block k (fun e => by subst e; rcases hk2 with h1 | h1; exact hn h1; omega)⟩
theorem IterStep.own {own : World → Nat → Prop} (ho : OwnOk own) {B : Nat} {W W' : World} (hB : WfOwn own W) (h : IterStep own B W W') (k : Nat) : own W' k ↔ own W k :=
  ho W W' hB h.size (fun k hk => h.keep k (hB k hk) (.inl hk)) k
theorem wrote_setCell (w : World) (g o : Nat) (v : Value) : Wrote w (w.setCell ⟨g, o, none⟩ v) g :=
  ⟨rfl, rfl, rfl, by simp, fun k hk => Below.heap_setCell w ⟨g, o, none⟩ v k hk⟩

theorem BodyStep.wrote {own : World → Nat → Prop} (ho : OwnOk own) {W W1 W2 : World} (hB : WfOwn own W1) (h : BodyStep own W W1) {g : Nat} (hw : Wrote W1 W2 g) (hg : W.heap.size ≤ g) (hn : ¬ own W1 g) : BodyStep own W W2 := by
  have hk : ∀ k, own W2 k ↔ own W1 k := ho W1 W2 hB (by rw [hw.size]; exact Nat.le_refl _) (fun k hk => hw.block k (fun e => hn (e ▸ hk)))
  exact ⟨by rw [hw.size]; exact h.size, fun k h1 => h.owns k ((hk k).1 h1), fun k hk1 h1 => (hw.block k (by omega)).trans (h.keep k hk1 h1)⟩
theorem BodyStep.alloc_new {own : World → Nat → Prop} (ho : OwnOk own) {W W1 : World} (hB : WfOwn own W1) (h : BodyStep own W W1) (o : Obj) : BodyStep own W (W1.alloc o) :=
  h.trans (BodyStep.of_same ho hB (by simp) (fun k hk => Below.heap_alloc W1 o k hk))
theorem not_own_new {own : World → Nat → Prop} (ho : OwnOk own) (W : World) (hB : WfOwn own W) (o : Obj) : ¬ own (W.alloc o) W.heap.size := fun h => by
  have := (ho W (W.alloc o) hB (by simp) (fun k hk => Below.heap_alloc W o k (hB k hk)) W.heap.size).1 h
  exact absurd (hB _ this) (by omega)

theorem room_of_none' {F : Fence} (hd : F.depth = none) (k : Nat) : F.room k := fun d h => by rw [hd] at h; cases h
theorem RoundIn_anyDepth {F : Fence} (hd : F.depth = none) {m m' : Nat} {P : Program} {l : Nat} {f : FuncId} {tmps : Array Value} {assign body : Code} {w : World} {R : Ending → World → Prop}
    (h : RoundIn F m P l f tmps assign body w R) : RoundIn F m' P l f tmps assign body w R := ⟨h.1, fun c cs _ => h.2 c cs (room_of_none' hd _)⟩
theorem YieldAt_anyDepth {F : Fence} (hd : F.depth = none) {m : Nat} (m' : Nat) {P : Program} {l : Nat} {args : Array Value} {W : World} {R : Ending → World → Prop} (h : YieldAt F m P l args W R) : YieldAt F m' P l args W R := by
  obtain ⟨fn, tmps, assign, body, hy, hR⟩ := h
  exact ⟨fn, tmps, assign, body, hy, RoundIn_anyDepth hd hR⟩

theorem IterStep.wf {own : World → Nat → Prop} (ho : OwnOk own) {B : Nat} {W W' : World} (hB : WfOwn own W) (h : IterStep own B W W') : WfOwn own W' := fun k hk => Nat.lt_of_lt_of_le (hB k ((IterStep.own ho hB h k).1 hk)) h.size

/-- An iterator's contract: whatever the body owns, whatever it keeps (J), so it abides the iterator's steps, and so each round goes on: what comes is some xs of S. -/
def SeqO {α : Type} (F : Fence) (n : Nat) (P : Program) (g : Nat) (lb : Array Value) (enc : α → Value) (S : List α → Prop) (N : Nat) (w : World) : Prop :=
  ∀ (l : Nat) (own : World → Nat → Prop) (J : List α → World → Prop) (W : World), OwnOk own → Below w.heap.size w W → (∀ k, own W k → w.heap.size ≤ k) →
    (∀ s W1 W2, J s W1 → IterStep own W.heap.size W1 W2 → J s W2) →
    (∀ s W1, J s W1 → WfOwn own W1) →
    (∀ pre x W1, J pre W1 → pre.length < N → YieldAt F (n - 1) P l #[enc x] W1 fun e W' => e = .returned (.bool true) ∧ J (pre ++ [x]) W' ∧ BodyStep own W1 W') →
    J [] W →
    CallsIn F n P g (#[.func (.yield l) #[] #[]] ++ lb) W fun e W' => (∃ v, e = .returned v) ∧ ∃ xs, S xs ∧ J xs W'

end Go.Proofs.Ytnclljamcfoolaa
namespace Go.Proofs.Ytnclljamcfoolaa
open Go.RowKit Go.Shelf
set_option linter.unusedVariables false
set_option linter.unusedSimpArgs false
variable {F : Fence} {n : Nat} {P : Program} {w : World}

def ownT (own0 : World → Nat → Prop) (D : Nat) (W : World) (k : Nat) : Prop := own0 W k ∨ k = D ∨ k = D + 1
theorem ownT_wf {own0 : World → Nat → Prop} {D : Nat} {W : World} (h : WfOwn own0 W) (hD : D + 2 ≤ W.heap.size) : WfOwn (ownT own0 D) W := fun k hk => by
  rcases hk with hk | hk | hk
  · exact h k hk
  · omega
  · omega
theorem ownT_ok {own0 : World → Nat → Prop} {D : Nat} (ho : OwnOk own0) : OwnOk (ownT own0 D) := fun W W' hw hs hk k => by
  have := ho W W' (fun k h => hw k (.inl h)) hs (fun k h => hk k (.inl h)) k
  unfold ownT
  rw [this]
theorem wrote_putObj (W : World) (l : Nat) (o : Obj) : Wrote W (W.putObj l o) l :=
  ⟨rfl, rfl, rfl, by simp, fun k hk => World.putObj_heap_other hk⟩
theorem IterStep.put {own0 : World → Nat → Prop} {B : Nat} {W : World} {l : Nat} (hn : ¬ own0 W l) (hB : B ≤ l) (o : Obj) : IterStep own0 B W (W.putObj l o) := IterStep.wrote (wrote_putObj W l o) hn hB
theorem IterStep.of_new {own : World → Nat → Prop} {B : Nat} {W W' : World} (h : Below W.heap.size W W') : IterStep own B W W' := ⟨h.os, h.tape, h.output, h.size, fun k hk _ => h.block k hk⟩

set_option maxHeartbeats 1000000 in
theorem rangeO {α : Type} {g : Operand} {ps : Array Tmp} {assign body : Code} {Q : Exit → Act → World → Prop} {a : Act}
    (hro : F.round = none) (h1 : 1 ≤ n) {gf : Nat} {lb : Array Value} (hg : a.eval g = .func (.func gf) #[] lb) (hFg : F.fn gf) (eg : ∀ args w, (callFunc gf args).run P w = .ok (.enter gf args) w)
    {enc : α → Value} {S : List α → Prop} {N : Nat} {w0 : World} (hseq : SeqO F (n - 1) P gf lb enc S N w0) (hb0 : Below w0.heap.size w0 w) (hps : ps.size = 1)
    (own0 : World → Nat → Prop) (ho : OwnOk own0) (hown0 : ∀ k, own0 w k → w0.heap.size ≤ k)
    (I : List α → World → Prop) (hWf : ∀ s W, w.heap.size ≤ W.heap.size → I s W → WfOwn own0 W) (hI : ∀ s W1 W2, w.heap.size ≤ W1.heap.size → I s W1 → IterStep own0 w.heap.size W1 W2 → I s W2) (hown : ∀ s W, w.heap.size + 2 ≤ W.heap.size → I s W → ∀ k, own0 W k → k ≠ w.heap.size ∧ k ≠ w.heap.size + 1) (h0 : I [] w) (Ax : α → Act → World → Prop)
    (hAx : ∀ x a' W1 W2, Ax x a' W1 → (∀ k, k ≠ w.heap.size + 1 → W2.heap[k]? = W1.heap[k]?) → w.heap.size + 2 ≤ W1.heap.size → Ax x a' W2)
    (hassign : ∀ (l : Nat) (pre : List α) (x : α) (W : World) (K : Act → World → Prop), w.heap.size + 2 ≤ W.heap.size → I pre W → (∀ a' W', Below W.heap.size W W' → Ax x a' W' → K a' W') →
      assign.wpIn (F.inRound l) (n - 1 - 1) P (Exit.then K (fun _ _ _ => False)) { tmps := (ps.zip #[enc x]).foldl (fun t (p, v) => t.setIfInBounds p v) a.tmps, defers := [] } W)
    (hbody : ∀ (l : Nat) (pre : List α) (x : α) (a' : Act) (W : World), w.heap.size + 2 ≤ W.heap.size → I pre W → Ax x a' W → pre.length < N →
      body.wpIn (F.inRound l) (n - 1 - 1) P (fun e _ W' => e = .normal ∧ BodyStep own0 W W' ∧ I (pre ++ [x]) W') a' W)
    (hdone : ∀ (xs : List α) (W : World), w.heap.size + 2 ≤ W.heap.size → S xs → I xs W → W.heap[w.heap.size]? = some (.deferred (some [])) → Q .normal { a with defers := { target := .collected w.heap.size, args := #[] } :: a.defers } W) :
    (Code.rangeFunc g ps assign body).wpIn F n P Q a w := by
  refine wpIn_rangeFunc ?_
  intro fn hfn
  rw [hro]
  obtain ⟨rec, hrec⟩ : ∃ rec : LoopState → Option Code → Loop, rec = fun st pe => { state := st, pending := pe, fn, tmps := a.tmps, params := ps, assign, body, defers := w.heap.size } := ⟨_, rfl⟩
  obtain ⟨W1, hW1⟩ : ∃ W1, (w.alloc (.deferred (some []))).alloc (.loop (rec .ready none)) = W1 := ⟨_, rfl⟩
  have hL1 : W1.heap[w.heap.size + 1]? = some (.loop (rec .ready none)) := by
    rw [← hW1]; have := World.alloc_heap_new (w.alloc (.deferred (some []))) (.loop (rec .ready none)); rwa [World.size_alloc] at this
  have hK1 : W1.heap[w.heap.size]? = some (.deferred (some [])) := by
    rw [← hW1]; exact (Below.heap_alloc _ _ _ (by simp)).trans (World.alloc_heap_new w _)
  have hz1 : W1.heap.size = w.heap.size + 2 := by rw [← hW1]; simp
  have hb01 : Below w.heap.size w W1 := by rw [← hW1]; exact ((Below.refl _ w).alloc (Nat.le_refl _) _).alloc (by simp) _
  have hI1 : I [] W1 := hI _ _ _ (Nat.le_refl _) h0 (IterStep.of_new hb01)
  have hb1 : Below w0.heap.size w0 W1 := hb0.trans (hb01.mono hb0.size)
  have hoT : OwnOk (ownT own0 w.heap.size) := ownT_ok ho
  have hw0 : WfOwn own0 w := hWf _ _ (Nat.le_refl _) h0
  refine ⟨w.heap.size + 1, [{ target := .collected w.heap.size, args := #[] }], W1, { target := .fn (.func gf) lb, args := #[.func (.yield (w.heap.size + 1)) #[] #[]] }, W1, gf,
    #[.func (.yield (w.heap.size + 1)) #[] #[]] ++ lb, W1, ?_, ?_, ?_, ?_, fun _ => h1, ?_⟩
  · rw [← hW1, hrec]; exact run_enterLoop_outer _ _ _ _ _
  · simp only [resolve, hg]
    simp [go_sem]
  · intro f' hf'; simp [Target.leads] at hf'; subst hf'; exact hFg
  · simp [invoke, go_sem, eg]
  · refine (hseq (w.heap.size + 1) (ownT own0 w.heap.size)
      (fun pre W => w.heap.size + 2 ≤ W.heap.size ∧ I pre W ∧ W.heap[w.heap.size + 1]? = some (.loop (rec .ready none)) ∧ W.heap[w.heap.size]? = some (.deferred (some [])))
      W1 hoT hb1 (fun k hk => ?_) (fun s A B hs hst => ?_) (fun s A hs => ownT_wf (hWf s A (by omega) hs.2.1) hs.1) ?_ ⟨by omega, hI1, hL1, hK1⟩).mono ?_
    · rcases hk with hk | hk | hk
      · exact hown0 k ((ho w W1 hw0 (by omega) (fun k h => hb01.block k (hw0 k h)) k).1 hk)
      · have := hb0.size; omega
      · have := hb0.size; omega
    · obtain ⟨hz, hi, hl, hk⟩ := hs
      refine ⟨Nat.le_trans hz hst.size, hI s A B (by omega) hi ⟨hst.os, hst.tape, hst.output, hst.size, fun k hk1 hk2 => hst.keep k hk1 ?_⟩, (hst.keep _ (by omega) (.inl (.inr (.inr rfl)))).trans hl, (hst.keep _ (by omega) (.inl (.inr (.inl rfl)))).trans hk⟩
      rcases hk2 with h | h
      · exact .inl (.inl h)
      · exact .inr (by omega)
    · rintro pre x W ⟨hz, hi, hl, hk⟩ hlen
      have hy := run_yield (P := P) (args := #[enc x]) hl (by rw [hrec]; exact hps.symm)
      rw [hrec] at hy
      refine ⟨fn, _, assign, body, hy, roundIn_of_wpIn hfn (hassign _ pre x W _ hz hi ?_)⟩
      clear hy
      intro a' Wa hba hax
      have hza : w.heap.size + 2 ≤ Wa.heap.size := Nat.le_trans hz hba.size
      have hla : Wa.heap[w.heap.size + 1]? = some (.loop (rec .ready none)) := (hba.block _ (by omega)).trans hl
      have hka : Wa.heap[w.heap.size]? = some (.deferred (some [])) := (hba.block _ (by omega)).trans hk
      have hia : I pre Wa := hI _ _ _ (by omega) hi (IterStep.of_new hba)
      refine ⟨_, run_beginRound hla (by rw [hrec]), ?_⟩
      obtain ⟨W2, hW2⟩ : ∃ W2, Wa.putObj (w.heap.size + 1) (.loop { rec .ready none with state := .busy }) = W2 := ⟨_, rfl⟩
      have hl2 : W2.heap[w.heap.size + 1]? = some (.loop { rec .ready none with state := .busy }) := by rw [← hW2]; exact World.putObj_heap_same (by omega)
      have hk2 : W2.heap[w.heap.size]? = some (.deferred (some [])) := by rw [← hW2]; exact (World.putObj_heap_other (by omega)).trans hka
      have hnla : ¬ own0 Wa (w.heap.size + 1) := fun h => (hown _ Wa hza hia _ h).2 rfl
      have hwr : Wrote Wa W2 (w.heap.size + 1) := by rw [← hW2]; exact wrote_putObj _ _ _
      have hz2 : w.heap.size + 2 ≤ W2.heap.size := by rw [hwr.size]; exact hza
      have hi2 : I pre W2 := hI _ _ _ (by omega) hia (IterStep.wrote hwr hnla (by omega))
      rw [hW2]
      refine wpIn_mono (hbody _ pre x a' W2 hz2 hi2 (hAx x a' Wa W2 hax (fun k hk => hwr.block k hk) hza) hlen) ?_
      rintro e a3 W3 ⟨rfl, hb3, hi3⟩
      have hz3 : w.heap.size + 2 ≤ W3.heap.size := Nat.le_trans hz2 hb3.size
      have hl3 : W3.heap[w.heap.size + 1]? = some (.loop { rec .ready none with state := .busy }) := (hb3.keep _ (by omega) (fun h => (hown _ W2 hz2 hi2 _ h).2 rfl)).trans hl2
      have hk3 : W3.heap[w.heap.size]? = some (.deferred (some [])) := (hb3.keep _ (by omega) (fun h => (hown _ W2 hz2 hi2 _ h).1 rfl)).trans hk2
      have hr := run_endRound (P := P) none hl3
      obtain ⟨W4, hW4⟩ : ∃ W4, W3.putObj (w.heap.size + 1) (.loop (rec .ready none)) = W4 := ⟨_, rfl⟩
      have hwr4 : Wrote W3 W4 (w.heap.size + 1) := by rw [← hW4]; exact wrote_putObj _ _ _
      have hnl3 : ¬ own0 W3 (w.heap.size + 1) := fun h => (hown _ W3 hz3 hi3 _ h).2 rfl
      have hr' : (Instr.endRound (w.heap.size + 1) none).run P W3 = .ok (.bool (none : Option Code).isNone) W4 := by
        rw [← hW4]; rw [hrec] at hr ⊢; exact hr
      have e1 : ∀ k, own0 Wa k ↔ own0 W k := fun k => ho W Wa (hWf _ _ (by omega) hi) hba.size (fun k h => hba.block k (hWf _ _ (by omega) hi k h)) k
      have e2 : ∀ k, own0 W2 k ↔ own0 Wa k := fun k => IterStep.own ho (hWf _ _ (by omega) hia) (IterStep.wrote (B := 0) hwr hnla (Nat.zero_le _)) k
      have e4 : ∀ k, own0 W4 k ↔ own0 W3 k := fun k => IterStep.own ho (hWf _ _ (by omega) hi3) (IterStep.wrote (B := 0) hwr4 hnl3 (Nat.zero_le _)) k
      refine ⟨_, W4, hr', rfl, ⟨by rw [hwr4.size]; exact hz3, hI _ _ _ (by omega) hi3 (IterStep.wrote hwr4 hnl3 (by omega)), by rw [← hW4]; exact World.putObj_heap_same (by omega), by rw [← hW4]; exact (World.putObj_heap_other (by omega)).trans hk3⟩, ?_, ?_, ?_⟩
      · have := hba.size; have := hwr.size; have := hb3.size; have := hwr4.size; omega
      · rintro k (h | h | h)
        · rcases hb3.owns k ((e4 k).1 h) with h' | h'
          · exact .inl (.inl ((e1 k).1 ((e2 k).1 h')))
          · exact .inr (by have := hba.size; have := hwr.size; omega)
        · exact .inl (.inr (.inl h))
        · exact .inl (.inr (.inr h))
      · intro k hk4 hn4
        have hnl : k ≠ w.heap.size + 1 := fun h => hn4 (.inr (.inr h))
        have hn0 : ¬ own0 W k := fun h => hn4 (.inl h)
        rw [hwr4.block k hnl, hb3.keep k (by have := hba.size; have := hwr.size; omega) (fun h => hn0 ((e1 k).1 ((e2 k).1 h))), hwr.block k hnl, hba.block k hk4]
    · rintro e W2 ⟨⟨v, rfl⟩, xs, hS, hz, hi, hl, hk⟩
      exact ⟨none, _, by have := run_endLoop (P := P) hl (by rw [hrec]; simp); rw [hrec] at this; exact this, hdone xs _ (by simp; exact hz) hS (hI _ _ _ (by omega) hi (IterStep.put (fun h => (hown _ W2 hz hi _ h).2 rfl) (by omega) _)) ((World.putObj_heap_other (by omega)).trans hk)⟩

end Go.Proofs.Ytnclljamcfoolaa
namespace Go.Proofs.Ytnclljamcfoolaa
open Go.RowKit Go.Shelf
attribute [local go_sem] Oper.semAt_some
set_option linter.unusedVariables false
set_option linter.unusedSimpArgs false

structure T3 where
  a : Int
  b : Int
  c : Int
deriving DecidableEq
@[reducible] def T3.v (t : T3) : Value := .agg #[.int .i64 t.a, .int .i64 t.b, .int .i64 t.c]
def T3.cs (t : T3) : List Value := [.int .i64 t.a, .int .i64 t.b, .int .i64 t.c]
def T3.set (t : T3) (i : Nat) (n : Int) : T3 := if i = 0 then ⟨n, t.b, t.c⟩ else if i = 1 then ⟨t.a, n, t.c⟩ else ⟨t.a, t.b, n⟩
/-- all whole numbers of a range, ascending -/
def upto (x : Rg) : List Int := (List.range (x.mx - x.mn + 1).toNat).map fun (j : Nat) => x.mn + (j : Int)
theorem T3.set_set (t : T3) (i : Nat) (n v : Int) : (t.set i n).set i v = t.set i v := by
  unfold T3.set
  (repeat' split) <;> simp_all
def truthsFrom (ok : T3 → Bool) : List Rg → Nat → T3 → List T3
  | [], _, t => if ok t then [t] else []
  | x :: xs, i, t => (upto x).flatMap fun n => truthsFrom ok xs (i + 1) (t.set i n)
/-- the first j numbers of a range -/
def uptoN (x : Rg) (j : Nat) : List Int := (List.range j).map fun (j : Nat) => x.mn + (j : Int)
theorem uptoN_succ (x : Rg) (j : Nat) : uptoN x (j + 1) = uptoN x j ++ [x.mn + (j : Int)] := by simp [uptoN, List.range_succ]

structure Fx (own : World → Nat → Prop) (e : Ear) (c1 : Nat) (A2 : Option Addr) (n2 c2 : Nat) (be bl by_ bn l b o : Nat) (W : World) : Prop where
  ear : ∀ j, W.cell? ⟨be, j, none⟩ = #[Value.int IntKind.i64 e.slack, Value.slice (some ⟨b, o, none⟩) e.tones.length c1, Value.slice A2 n2 c2][j]?
  lb : W.cell? ⟨bl, 0, none⟩ = some (.slice none 0 0)
  yb : W.cell? ⟨by_, 0, none⟩ = some (.func (.yield l) #[] #[])
  nb : W.cell? ⟨bn, 0, none⟩ = some (.func (.func 105) #[] #[.pointer (some ⟨be, 0, none⟩), .pointer (some ⟨bl, 0, none⟩), .pointer (some ⟨by_, 0, none⟩), .pointer (some ⟨bn, 0, none⟩)])
  row : ∀ i (h : i < e.tones.length), W.cell? ⟨b, o + i * 2, none⟩ = some (.int .i64 e.tones[i].mn) ∧ W.cell? ⟨b, o + i * 2 + 1, none⟩ = some (.int .i64 e.tones[i].mx)
  lts : be < W.heap.size ∧ bl < W.heap.size ∧ by_ < W.heap.size ∧ bn < W.heap.size ∧ b < W.heap.size
  nos : ¬ own W be ∧ ¬ own W bl ∧ ¬ own W by_ ∧ ¬ own W bn ∧ ¬ own W b
theorem Fx.step {own : World → Nat → Prop} {e : Ear} {c1 : Nat} {A2 : Option Addr} {n2 c2 be bl by_ bn l b o : Nat} {W W' : World} (h : Fx own e c1 A2 n2 c2 be bl by_ bn l b o W) (hs : BodyStep own W W') : Fx own e c1 A2 n2 c2 be bl by_ bn l b o W' := by
  obtain ⟨l1, l2, l3, l4, l5⟩ := h.lts
  obtain ⟨o1, o2, o3, o4, o5⟩ := h.nos
  have hz := hs.size
  exact ⟨fun j => (hs.cell l1 o1 j).trans (h.ear j), (hs.cell l2 o2 0).trans h.lb, (hs.cell l3 o3 0).trans h.yb, (hs.cell l4 o4 0).trans h.nb, fun i hi => ⟨(hs.cell l5 o5 _).trans (h.row i hi).1, (hs.cell l5 o5 _).trans (h.row i hi).2⟩,
    ⟨by omega, by omega, by omega, by omega, by omega⟩, ⟨hs.not_own l1 o1, hs.not_own l2 o2, hs.not_own l3 o3, hs.not_own l4 o4, hs.not_own l5 o5⟩⟩

set_option maxRecDepth 100000 in
set_option maxHeartbeats 2000000 in
theorem next_nil (F : Fence) (h105 : F.fn 105) (hro : F.round = none) (hd : F.depth = none) (own : World → Nat → Prop) (J : List T3 → World → Prop) (B N : Nat) (ho : OwnOk own) (hWf : ∀ s W, J s W → WfOwn own W) (hJs : ∀ s W W', J s W → IterStep own B W W' → J s W') (e : Ear) (c1 : Nat) (A2 : Option Addr) (n2 c2 be bl by_ bn l b o : Nat)
    (hY : ∀ m pre x W1, J pre W1 → pre.length < N → YieldAt F m Try.prog l #[T3.v x] W1 fun ed W' => ed = .returned (.bool true) ∧ J (pre ++ [x]) W' ∧ BodyStep own W1 W')
    (m : Nat) (t : T3) (pre : List T3) (W : World) (hF : Fx own e c1 A2 n2 c2 be bl by_ bn l b o W) (hJ : J pre W) (hN : pre.length < N) (hB : B ≤ W.heap.size) :
    CallsIn F m Try.prog 105 #[T3.v t, .int .i64 e.tones.length, .pointer (some ⟨be, 0, none⟩), .pointer (some ⟨bl, 0, none⟩), .pointer (some ⟨by_, 0, none⟩), .pointer (some ⟨bn, 0, none⟩)] W fun ed W' => ed = .returned (.bool true) ∧ J (pre ++ [t]) W' ∧ BodyStep own W W' := by
  obtain ⟨l1, l2, l3, l4, l5⟩ := hF.lts
  have hF0 := hF.ear
  have hF1 := hF.lb
  have hF2 := hF.yb
  refine callsIn_of_wp Try.func105 rfl h105 ?_ hro
  simp only [Try.ntmps105, List.size_toArray, List.length_cons, List.length_nil, Nat.reduceAdd, Nat.reduceSub, Array.replicate_succ, Array.replicate_zero, List.push_toArray, List.append_toArray, List.nil_append, List.cons_append]
  gi_wp2
  generalize hV : W.alloc _ = V
  generalize hg_ : W.heap.size = g1
  obtain ⟨hB0_, Hg1, kg1, fg1, lg1, bg1⟩ := gen1 W _ _ hV hg_
  have hJV : J pre V := by rw [← hV]; exact hJs _ _ _ hJ (IterStep.alloc _ _ _ _)
  have hS : BodyStep own W V := BodyStep.of_same ho (hWf _ _ hJ) hB0_.size (fun k hk => hB0_.block k hk)
  have hF0 := (hF.step hS).ear
  have hF1 := (hF.step hS).lb
  have hF2 := (hF.step hS).yb
  have HS := Lib.hid hS
  have HF := Lib.hid hF
  clear hV hg_ hB0_ hS hF bg1 Hg1
  gi_loopw [19] (fun i wr => i = .int .i64 0 ∧ wr = V) (fun _ _ => 0)
  case atStart => exact ⟨rfl, rfl⟩
  case round =>
    obtain ⟨rfl, rfl⟩ := hrel
    obtain ⟨fn, tmps, assign, body, hy, hR⟩ := hY (m - 1) pre t _ hJV hN
    gi_wp2
    refine hR.mono ?_
    rintro ed W' ⟨rfl, hJ', hk'⟩
    gi_wp2
    go_ret
    exact ⟨rfl, hJ', HS.out.trans hk'⟩

theorem uptoN_le (x : Rg) {j k : Nat} (h : j ≤ k) : ∃ r, uptoN x k = uptoN x j ++ r := by
  obtain ⟨d, rfl⟩ : ∃ d, k = j + d := ⟨k - j, by omega⟩
  clear h
  induction d with
  | zero => exact ⟨[], by simp⟩
  | succ d ih =>
    obtain ⟨r, hr⟩ := ih
    exact ⟨r ++ [x.mn + ((j + d : Nat) : Int)], by rw [← Nat.add_assoc, uptoN_succ, hr, List.append_assoc]⟩
theorem room_next {x : Rg} {f : Int → List T3} {pre : List T3} {j c N : Nat} (hj : j + 1 ≤ c) (h : pre.length + ((uptoN x c).flatMap f).length ≤ N) : (pre ++ (uptoN x j).flatMap f).length + (f (x.mn + (j : Int))).length ≤ N := by
  obtain ⟨r, hr⟩ := uptoN_le x hj
  rw [hr, uptoN_succ] at h
  simp only [List.flatMap_append, List.length_append, List.flatMap_cons, List.flatMap_nil, List.append_nil] at h ⊢
  omega
theorem uptoN_zero (x : Rg) : uptoN x 0 = [] := rfl
theorem upto_eq (x : Rg) : upto x = uptoN x (x.mx - x.mn + 1).toNat := rfl

set_option maxRecDepth 100000 in
set_option maxHeartbeats 4000000 in
theorem next_cons0 (F : Fence) (h105 : F.fn 105) (hro : F.round = none) (hd : F.depth = none) (own : World → Nat → Prop) (J : List T3 → World → Prop) (B N : Nat) (ho : OwnOk own) (hWf : ∀ s W, J s W → WfOwn own W) (hJs : ∀ s W W', J s W → IterStep own B W W' → J s W') (e : Ear) (c1 : Nat) (A2 : Option Addr) (n2 c2 be bl by_ bn l b o : Nat)
    (hlt : 0 < e.tones.length) (x : Rg) (hx : e.tones[0] = x) (hb : 1 ≤ x.mn ∧ x.mn ≤ 100000 ∧ 1 ≤ x.mx ∧ x.mx ≤ 100000) (rest : List Rg)
    (ih : ∀ (m : Nat) (t : T3) (pre : List T3) (W : World), Fx own e c1 A2 n2 c2 be bl by_ bn l b o W → J pre W → pre.length + (truthsFrom (fun _ => true) rest (0 + 1) t).length ≤ N → B ≤ W.heap.size →
      CallsIn F m Try.prog 105 #[T3.v t, .int .i64 1, .pointer (some ⟨be, 0, none⟩), .pointer (some ⟨bl, 0, none⟩), .pointer (some ⟨by_, 0, none⟩), .pointer (some ⟨bn, 0, none⟩)] W fun ed W' => ed = .returned (.bool true) ∧ J (pre ++ truthsFrom (fun _ => true) rest (0 + 1) t) W' ∧ BodyStep own W W')
    (m : Nat) (t : T3) (pre : List T3) (W : World) (hF : Fx own e c1 A2 n2 c2 be bl by_ bn l b o W) (hJ : J pre W) (hN : pre.length + (truthsFrom (fun _ => true) (x :: rest) 0 t).length ≤ N) (hB : B ≤ W.heap.size) :
    CallsIn F m Try.prog 105 #[T3.v t, .int .i64 0, .pointer (some ⟨be, 0, none⟩), .pointer (some ⟨bl, 0, none⟩), .pointer (some ⟨by_, 0, none⟩), .pointer (some ⟨bn, 0, none⟩)] W fun ed W' => ed = .returned (.bool true) ∧ J (pre ++ truthsFrom (fun _ => true) (x :: rest) 0 t) W' ∧ BodyStep own W W' := by
  have hdd : ∀ k : Nat, (F.depth.isSome = true → 1 ≤ k) := fun k h => by rw [hd] at h; cases h
  obtain ⟨l1, l2, l3, l4, l5⟩ := hF.lts
  refine callsIn_of_wp Try.func105 rfl h105 ?_ hro
  simp only [Try.ntmps105, List.size_toArray, List.length_cons, List.length_nil, Nat.reduceAdd, Nat.reduceSub, Array.replicate_succ, Array.replicate_zero, List.push_toArray, List.append_toArray, List.nil_append, List.cons_append]
  have hne : ((0 : Int) == (e.tones.length : Int)) = false := by simp; omega
  have hF0 := hF.ear
  have hr0 := (hF.row 0 hlt).1
  have hr1 := (hF.row 0 hlt).2
  rw [hx] at hr0 hr1
  simp only [Nat.zero_mul, Nat.add_zero] at hr0 hr1
  have a0 : (0 : Int) ≤ (0 : Int) := by omega
  have a1 : (0 : Int) < (e.tones.length : Int) := by omega
  gi_wp2
  generalize hV : W.alloc _ = V
  generalize hg_ : W.heap.size = g1
  have hnV : ¬ own V g1 := by rw [← hV, ← hg_]; exact not_own_new ho W (hWf _ _ hJ) _
  have hJV : J pre V := by rw [← hV]; exact hJs _ _ _ hJ (IterStep.alloc _ _ _ _)
  have hSV : BodyStep own W V := by rw [← hV]; exact BodyStep.alloc_new ho (hWf _ _ hJ) (BodyStep.refl own W) _
  obtain ⟨hB0_, Hg1, kg1, fg1, lg1, bg1⟩ := gen1 W _ _ hV hg_
  have hgW : W.heap.size ≤ g1 := bg1
  have hcnt := Lib.hid (show pre.length + ((uptoN x (x.mx - x.mn + 1).toNat).flatMap fun n => truthsFrom (fun _ => true) rest (0 + 1) (t.set 0 n)).length ≤ N from hN)
  have HFx := Lib.hid hF
  clear hV hg_ hB0_ kg1 fg1 hF hF0 hr0 hr1 bg1
  gi_loopw [11] (fun i wr => ∃ j : Nat, j ≤ (x.mx - x.mn + 1).toNat ∧ i = .int .i64 (x.mn + (j : Int)) ∧ BodyStep own W wr ∧ (∃ t' : T3, wr.heap[g1]? = some (.cells #[.int .i64 t'.a, .int .i64 t'.b, .int .i64 t'.c] 93 (0, 0)) ∧ (∀ v, t'.set 0 v = t.set 0 v) ∧ ¬ own wr g1) ∧
      J (pre ++ (uptoN x j).flatMap fun n => truthsFrom (fun _ => true) rest (0 + 1) (t.set 0 n)) wr)
    (fun i _ => (x.mx + 1 - intOf i).toNat)
  case atStart => exact ⟨0, Nat.zero_le _, by simp, hSV, ⟨t, Hg1, fun _ => rfl, hnV⟩, by simpa [uptoN] using hJV⟩
  case round =>
    obtain ⟨j, hj, rfl, hSw, ⟨t', Hw, ht', hnw⟩, hJw⟩ := hrel
    have hFw := HFx.out.step hSw
    have hF0 := hFw.ear
    have hFn := hFw.nb
    have hr0 := (hFw.row 0 hlt).1
    have hr1 := (hFw.row 0 hlt).2
    rw [hx] at hr0 hr1
    simp only [Nat.zero_mul, Nat.add_zero] at hr0 hr1
    have kg := fun k => cell_of_row wr g1 k _ _ _ Hw
    have fg := fun k => frozen_row Hw k
    have HFw := Lib.hid hFw
    clear hFw
    by_cases hjl : x.mn + (j : Int) ≤ x.mx
    · have hdl : decide (x.mn + (j : Int) ≤ x.mx) = true := decide_eq_true hjl
      have e2 : (⟨x.mn + (j : Int), t'.b, t'.c⟩ : T3) = t.set 0 (x.mn + (j : Int)) := by rw [← ht']; rfl
      have HE := Lib.hid e2
      clear e2
      gi_wp2
      have hwr : Wrote wr (wr.setCell ⟨g1, 0, none⟩ (.int .i64 (x.mn + (j : Int)))) g1 := wrote_setCell _ _ _ _
      have hs2 : BodyStep own W (wr.setCell ⟨g1, 0, none⟩ (.int .i64 (x.mn + (j : Int)))) := BodyStep.wrote ho (hWf _ _ hJw) hSw hwr hgW hnw
      refine (ih (m - 1) ⟨x.mn + (j : Int), t'.b, t'.c⟩ (pre ++ (uptoN x j).flatMap fun n => truthsFrom (fun _ => true) rest (0 + 1) (t.set 0 n)) _ (HFx.out.step hs2) (hJs _ _ _ hJw (IterStep.wrote hwr hnw (Nat.le_trans hB hgW))) (by rw [HE.out]; exact room_next (f := fun n => truthsFrom (fun _ => true) rest (0 + 1) (t.set 0 n)) (by omega) hcnt.out) (by have := hs2.size; omega)).mono ?_
      rintro ed W3 ⟨rfl, hJ3, hs3⟩
      gi_wp2
      go_roundw
      case rel =>
        have hg3 : W3.heap[g1]? = (wr.setCell ⟨g1, 0, none⟩ (.int .i64 (x.mn + (j : Int)))).heap[g1]? := hs3.keep g1 (by simp; exact (Array.getElem?_eq_some_iff.1 Hw).1) (fun h => hnw ((IterStep.own ho (hWf _ _ hJw) (IterStep.wrote (B := 0) hwr hnw (Nat.zero_le _)) g1).1 h))
        refine ⟨j + 1, by omega, by go_num, hs2.trans hs3, ⟨⟨x.mn + (j : Int), t'.b, t'.c⟩, hg3.trans ?_, ?_, ?_⟩, ?_⟩
        · rw [setCell_eq_setRow wr g1 0 _ _ _ _ Hw]; exact setRow_heap Hw
        · intro v; rw [HE.out, T3.set_set]
        · exact hs3.not_own (by simp; exact (Array.getElem?_eq_some_iff.1 Hw).1) (fun h => hnw ((IterStep.own ho (hWf _ _ hJw) (IterStep.wrote (B := 0) hwr hnw (Nat.zero_le _)) g1).1 h))
        · rw [uptoN_succ, List.flatMap_append, ← List.append_assoc]
          rw [HE.out] at hJ3
          simpa using hJ3
      case measure => simp [intOf]; omega
    · have hdl : decide (x.mn + (j : Int) ≤ x.mx) = false := decide_eq_false hjl
      gi_wp2
      go_ret
      obtain rfl : j = (x.mx - x.mn + 1).toNat := by omega
      exact ⟨rfl, hJw, hSw⟩


set_option maxRecDepth 100000 in
set_option maxHeartbeats 4000000 in
theorem next_cons1 (F : Fence) (h105 : F.fn 105) (hro : F.round = none) (hd : F.depth = none) (own : World → Nat → Prop) (J : List T3 → World → Prop) (B N : Nat) (ho : OwnOk own) (hWf : ∀ s W, J s W → WfOwn own W) (hJs : ∀ s W W', J s W → IterStep own B W W' → J s W') (e : Ear) (c1 : Nat) (A2 : Option Addr) (n2 c2 be bl by_ bn l b o : Nat)
    (hlt : 1 < e.tones.length) (x : Rg) (hx : e.tones[1] = x) (hb : 1 ≤ x.mn ∧ x.mn ≤ 100000 ∧ 1 ≤ x.mx ∧ x.mx ≤ 100000) (rest : List Rg)
    (ih : ∀ (m : Nat) (t : T3) (pre : List T3) (W : World), Fx own e c1 A2 n2 c2 be bl by_ bn l b o W → J pre W → pre.length + (truthsFrom (fun _ => true) rest (1 + 1) t).length ≤ N → B ≤ W.heap.size →
      CallsIn F m Try.prog 105 #[T3.v t, .int .i64 2, .pointer (some ⟨be, 0, none⟩), .pointer (some ⟨bl, 0, none⟩), .pointer (some ⟨by_, 0, none⟩), .pointer (some ⟨bn, 0, none⟩)] W fun ed W' => ed = .returned (.bool true) ∧ J (pre ++ truthsFrom (fun _ => true) rest (1 + 1) t) W' ∧ BodyStep own W W')
    (m : Nat) (t : T3) (pre : List T3) (W : World) (hF : Fx own e c1 A2 n2 c2 be bl by_ bn l b o W) (hJ : J pre W) (hN : pre.length + (truthsFrom (fun _ => true) (x :: rest) 1 t).length ≤ N) (hB : B ≤ W.heap.size) :
    CallsIn F m Try.prog 105 #[T3.v t, .int .i64 1, .pointer (some ⟨be, 0, none⟩), .pointer (some ⟨bl, 0, none⟩), .pointer (some ⟨by_, 0, none⟩), .pointer (some ⟨bn, 0, none⟩)] W fun ed W' => ed = .returned (.bool true) ∧ J (pre ++ truthsFrom (fun _ => true) (x :: rest) 1 t) W' ∧ BodyStep own W W' := by
  have hdd : ∀ k : Nat, (F.depth.isSome = true → 1 ≤ k) := fun k h => by rw [hd] at h; cases h
  obtain ⟨l1, l2, l3, l4, l5⟩ := hF.lts
  refine callsIn_of_wp Try.func105 rfl h105 ?_ hro
  simp only [Try.ntmps105, List.size_toArray, List.length_cons, List.length_nil, Nat.reduceAdd, Nat.reduceSub, Array.replicate_succ, Array.replicate_zero, List.push_toArray, List.append_toArray, List.nil_append, List.cons_append]
  have hne : ((1 : Int) == (e.tones.length : Int)) = false := by simp; omega
  have hF0 := hF.ear
  have hr0 := (hF.row 1 hlt).1
  have hr1 := (hF.row 1 hlt).2
  rw [hx] at hr0 hr1
  have a0 : (0 : Int) ≤ (1 : Int) := by omega
  have a1 : (1 : Int) < (e.tones.length : Int) := by omega
  gi_wp2
  generalize hV : W.alloc _ = V
  generalize hg_ : W.heap.size = g1
  have hnV : ¬ own V g1 := by rw [← hV, ← hg_]; exact not_own_new ho W (hWf _ _ hJ) _
  have hJV : J pre V := by rw [← hV]; exact hJs _ _ _ hJ (IterStep.alloc _ _ _ _)
  have hSV : BodyStep own W V := by rw [← hV]; exact BodyStep.alloc_new ho (hWf _ _ hJ) (BodyStep.refl own W) _
  obtain ⟨hB0_, Hg1, kg1, fg1, lg1, bg1⟩ := gen1 W _ _ hV hg_
  have hgW : W.heap.size ≤ g1 := bg1
  have hcnt := Lib.hid (show pre.length + ((uptoN x (x.mx - x.mn + 1).toNat).flatMap fun n => truthsFrom (fun _ => true) rest (1 + 1) (t.set 1 n)).length ≤ N from hN)
  have HFx := Lib.hid hF
  clear hV hg_ hB0_ kg1 fg1 hF hF0 hr0 hr1 bg1
  gi_loopw [11] (fun i wr => ∃ j : Nat, j ≤ (x.mx - x.mn + 1).toNat ∧ i = .int .i64 (x.mn + (j : Int)) ∧ BodyStep own W wr ∧ (∃ t' : T3, wr.heap[g1]? = some (.cells #[.int .i64 t'.a, .int .i64 t'.b, .int .i64 t'.c] 93 (0, 0)) ∧ (∀ v, t'.set 1 v = t.set 1 v) ∧ ¬ own wr g1) ∧
      J (pre ++ (uptoN x j).flatMap fun n => truthsFrom (fun _ => true) rest (1 + 1) (t.set 1 n)) wr)
    (fun i _ => (x.mx + 1 - intOf i).toNat)
  case atStart => exact ⟨0, Nat.zero_le _, by simp, hSV, ⟨t, Hg1, fun _ => rfl, hnV⟩, by simpa [uptoN] using hJV⟩
  case round =>
    obtain ⟨j, hj, rfl, hSw, ⟨t', Hw, ht', hnw⟩, hJw⟩ := hrel
    have hFw := HFx.out.step hSw
    have hF0 := hFw.ear
    have hFn := hFw.nb
    have hr0 := (hFw.row 1 hlt).1
    have hr1 := (hFw.row 1 hlt).2
    rw [hx] at hr0 hr1
    have kg := fun k => cell_of_row wr g1 k _ _ _ Hw
    have fg := fun k => frozen_row Hw k
    have HFw := Lib.hid hFw
    clear hFw
    by_cases hjl : x.mn + (j : Int) ≤ x.mx
    · have hdl : decide (x.mn + (j : Int) ≤ x.mx) = true := decide_eq_true hjl
      have e2 : (⟨t'.a, x.mn + (j : Int), t'.c⟩ : T3) = t.set 1 (x.mn + (j : Int)) := by rw [← ht']; rfl
      have HE := Lib.hid e2
      clear e2
      gi_wp2
      have hwr : Wrote wr (wr.setCell ⟨g1, 1, none⟩ (.int .i64 (x.mn + (j : Int)))) g1 := wrote_setCell _ _ _ _
      have hs2 : BodyStep own W (wr.setCell ⟨g1, 1, none⟩ (.int .i64 (x.mn + (j : Int)))) := BodyStep.wrote ho (hWf _ _ hJw) hSw hwr hgW hnw
      refine (ih (m - 1) ⟨t'.a, x.mn + (j : Int), t'.c⟩ (pre ++ (uptoN x j).flatMap fun n => truthsFrom (fun _ => true) rest (1 + 1) (t.set 1 n)) _ (HFx.out.step hs2) (hJs _ _ _ hJw (IterStep.wrote hwr hnw (Nat.le_trans hB hgW))) (by rw [HE.out]; exact room_next (f := fun n => truthsFrom (fun _ => true) rest (1 + 1) (t.set 1 n)) (by omega) hcnt.out) (by have := hs2.size; omega)).mono ?_
      rintro ed W3 ⟨rfl, hJ3, hs3⟩
      gi_wp2
      go_roundw
      case rel =>
        have hg3 : W3.heap[g1]? = (wr.setCell ⟨g1, 1, none⟩ (.int .i64 (x.mn + (j : Int)))).heap[g1]? := hs3.keep g1 (by simp; exact (Array.getElem?_eq_some_iff.1 Hw).1) (fun h => hnw ((IterStep.own ho (hWf _ _ hJw) (IterStep.wrote (B := 0) hwr hnw (Nat.zero_le _)) g1).1 h))
        refine ⟨j + 1, by omega, by go_num, hs2.trans hs3, ⟨⟨t'.a, x.mn + (j : Int), t'.c⟩, hg3.trans ?_, ?_, ?_⟩, ?_⟩
        · rw [setCell_eq_setRow wr g1 1 _ _ _ _ Hw]; exact setRow_heap Hw
        · intro v; rw [HE.out, T3.set_set]
        · exact hs3.not_own (by simp; exact (Array.getElem?_eq_some_iff.1 Hw).1) (fun h => hnw ((IterStep.own ho (hWf _ _ hJw) (IterStep.wrote (B := 0) hwr hnw (Nat.zero_le _)) g1).1 h))
        · rw [uptoN_succ, List.flatMap_append, ← List.append_assoc]
          rw [HE.out] at hJ3
          simpa using hJ3
      case measure => simp [intOf]; omega
    · have hdl : decide (x.mn + (j : Int) ≤ x.mx) = false := decide_eq_false hjl
      gi_wp2
      go_ret
      obtain rfl : j = (x.mx - x.mn + 1).toNat := by omega
      exact ⟨rfl, hJw, hSw⟩


set_option maxRecDepth 100000 in
set_option maxHeartbeats 4000000 in
theorem next_cons2 (F : Fence) (h105 : F.fn 105) (hro : F.round = none) (hd : F.depth = none) (own : World → Nat → Prop) (J : List T3 → World → Prop) (B N : Nat) (ho : OwnOk own) (hWf : ∀ s W, J s W → WfOwn own W) (hJs : ∀ s W W', J s W → IterStep own B W W' → J s W') (e : Ear) (c1 : Nat) (A2 : Option Addr) (n2 c2 be bl by_ bn l b o : Nat)
    (hlt : 2 < e.tones.length) (x : Rg) (hx : e.tones[2] = x) (hb : 1 ≤ x.mn ∧ x.mn ≤ 100000 ∧ 1 ≤ x.mx ∧ x.mx ≤ 100000) (rest : List Rg)
    (ih : ∀ (m : Nat) (t : T3) (pre : List T3) (W : World), Fx own e c1 A2 n2 c2 be bl by_ bn l b o W → J pre W → pre.length + (truthsFrom (fun _ => true) rest (2 + 1) t).length ≤ N → B ≤ W.heap.size →
      CallsIn F m Try.prog 105 #[T3.v t, .int .i64 3, .pointer (some ⟨be, 0, none⟩), .pointer (some ⟨bl, 0, none⟩), .pointer (some ⟨by_, 0, none⟩), .pointer (some ⟨bn, 0, none⟩)] W fun ed W' => ed = .returned (.bool true) ∧ J (pre ++ truthsFrom (fun _ => true) rest (2 + 1) t) W' ∧ BodyStep own W W')
    (m : Nat) (t : T3) (pre : List T3) (W : World) (hF : Fx own e c1 A2 n2 c2 be bl by_ bn l b o W) (hJ : J pre W) (hN : pre.length + (truthsFrom (fun _ => true) (x :: rest) 2 t).length ≤ N) (hB : B ≤ W.heap.size) :
    CallsIn F m Try.prog 105 #[T3.v t, .int .i64 2, .pointer (some ⟨be, 0, none⟩), .pointer (some ⟨bl, 0, none⟩), .pointer (some ⟨by_, 0, none⟩), .pointer (some ⟨bn, 0, none⟩)] W fun ed W' => ed = .returned (.bool true) ∧ J (pre ++ truthsFrom (fun _ => true) (x :: rest) 2 t) W' ∧ BodyStep own W W' := by
  have hdd : ∀ k : Nat, (F.depth.isSome = true → 1 ≤ k) := fun k h => by rw [hd] at h; cases h
  obtain ⟨l1, l2, l3, l4, l5⟩ := hF.lts
  refine callsIn_of_wp Try.func105 rfl h105 ?_ hro
  simp only [Try.ntmps105, List.size_toArray, List.length_cons, List.length_nil, Nat.reduceAdd, Nat.reduceSub, Array.replicate_succ, Array.replicate_zero, List.push_toArray, List.append_toArray, List.nil_append, List.cons_append]
  have hne : ((2 : Int) == (e.tones.length : Int)) = false := by simp; omega
  have hF0 := hF.ear
  have hr0 := (hF.row 2 hlt).1
  have hr1 := (hF.row 2 hlt).2
  rw [hx] at hr0 hr1
  have a0 : (0 : Int) ≤ (2 : Int) := by omega
  have a1 : (2 : Int) < (e.tones.length : Int) := by omega
  gi_wp2
  generalize hV : W.alloc _ = V
  generalize hg_ : W.heap.size = g1
  have hnV : ¬ own V g1 := by rw [← hV, ← hg_]; exact not_own_new ho W (hWf _ _ hJ) _
  have hJV : J pre V := by rw [← hV]; exact hJs _ _ _ hJ (IterStep.alloc _ _ _ _)
  have hSV : BodyStep own W V := by rw [← hV]; exact BodyStep.alloc_new ho (hWf _ _ hJ) (BodyStep.refl own W) _
  obtain ⟨hB0_, Hg1, kg1, fg1, lg1, bg1⟩ := gen1 W _ _ hV hg_
  have hgW : W.heap.size ≤ g1 := bg1
  have hcnt := Lib.hid (show pre.length + ((uptoN x (x.mx - x.mn + 1).toNat).flatMap fun n => truthsFrom (fun _ => true) rest (2 + 1) (t.set 2 n)).length ≤ N from hN)
  have HFx := Lib.hid hF
  clear hV hg_ hB0_ kg1 fg1 hF hF0 hr0 hr1 bg1
  gi_loopw [11] (fun i wr => ∃ j : Nat, j ≤ (x.mx - x.mn + 1).toNat ∧ i = .int .i64 (x.mn + (j : Int)) ∧ BodyStep own W wr ∧ (∃ t' : T3, wr.heap[g1]? = some (.cells #[.int .i64 t'.a, .int .i64 t'.b, .int .i64 t'.c] 93 (0, 0)) ∧ (∀ v, t'.set 2 v = t.set 2 v) ∧ ¬ own wr g1) ∧
      J (pre ++ (uptoN x j).flatMap fun n => truthsFrom (fun _ => true) rest (2 + 1) (t.set 2 n)) wr)
    (fun i _ => (x.mx + 1 - intOf i).toNat)
  case atStart => exact ⟨0, Nat.zero_le _, by simp, hSV, ⟨t, Hg1, fun _ => rfl, hnV⟩, by simpa [uptoN] using hJV⟩
  case round =>
    obtain ⟨j, hj, rfl, hSw, ⟨t', Hw, ht', hnw⟩, hJw⟩ := hrel
    have hFw := HFx.out.step hSw
    have hF0 := hFw.ear
    have hFn := hFw.nb
    have hr0 := (hFw.row 2 hlt).1
    have hr1 := (hFw.row 2 hlt).2
    rw [hx] at hr0 hr1
    have kg := fun k => cell_of_row wr g1 k _ _ _ Hw
    have fg := fun k => frozen_row Hw k
    have HFw := Lib.hid hFw
    clear hFw
    by_cases hjl : x.mn + (j : Int) ≤ x.mx
    · have hdl : decide (x.mn + (j : Int) ≤ x.mx) = true := decide_eq_true hjl
      have e2 : (⟨t'.a, t'.b, x.mn + (j : Int)⟩ : T3) = t.set 2 (x.mn + (j : Int)) := by rw [← ht']; rfl
      have HE := Lib.hid e2
      clear e2
      gi_wp2
      have hwr : Wrote wr (wr.setCell ⟨g1, 2, none⟩ (.int .i64 (x.mn + (j : Int)))) g1 := wrote_setCell _ _ _ _
      have hs2 : BodyStep own W (wr.setCell ⟨g1, 2, none⟩ (.int .i64 (x.mn + (j : Int)))) := BodyStep.wrote ho (hWf _ _ hJw) hSw hwr hgW hnw
      refine (ih (m - 1) ⟨t'.a, t'.b, x.mn + (j : Int)⟩ (pre ++ (uptoN x j).flatMap fun n => truthsFrom (fun _ => true) rest (2 + 1) (t.set 2 n)) _ (HFx.out.step hs2) (hJs _ _ _ hJw (IterStep.wrote hwr hnw (Nat.le_trans hB hgW))) (by rw [HE.out]; exact room_next (f := fun n => truthsFrom (fun _ => true) rest (2 + 1) (t.set 2 n)) (by omega) hcnt.out) (by have := hs2.size; omega)).mono ?_
      rintro ed W3 ⟨rfl, hJ3, hs3⟩
      gi_wp2
      go_roundw
      case rel =>
        have hg3 : W3.heap[g1]? = (wr.setCell ⟨g1, 2, none⟩ (.int .i64 (x.mn + (j : Int)))).heap[g1]? := hs3.keep g1 (by simp; exact (Array.getElem?_eq_some_iff.1 Hw).1) (fun h => hnw ((IterStep.own ho (hWf _ _ hJw) (IterStep.wrote (B := 0) hwr hnw (Nat.zero_le _)) g1).1 h))
        refine ⟨j + 1, by omega, by go_num, hs2.trans hs3, ⟨⟨t'.a, t'.b, x.mn + (j : Int)⟩, hg3.trans ?_, ?_, ?_⟩, ?_⟩
        · rw [setCell_eq_setRow wr g1 2 _ _ _ _ Hw]; exact setRow_heap Hw
        · intro v; rw [HE.out, T3.set_set]
        · exact hs3.not_own (by simp; exact (Array.getElem?_eq_some_iff.1 Hw).1) (fun h => hnw ((IterStep.own ho (hWf _ _ hJw) (IterStep.wrote (B := 0) hwr hnw (Nat.zero_le _)) g1).1 h))
        · rw [uptoN_succ, List.flatMap_append, ← List.append_assoc]
          rw [HE.out] at hJ3
          simpa using hJ3
      case measure => simp [intOf]; omega
    · have hdl : decide (x.mn + (j : Int) ≤ x.mx) = false := decide_eq_false hjl
      gi_wp2
      go_ret
      obtain rfl : j = (x.mx - x.mn + 1).toNat := by omega
      exact ⟨rfl, hJw, hSw⟩


theorem next_in (F : Fence) (h105 : F.fn 105) (hro : F.round = none) (hd : F.depth = none) (own : World → Nat → Prop) (J : List T3 → World → Prop) (B N : Nat) (ho : OwnOk own) (hWf : ∀ s W, J s W → WfOwn own W) (hJs : ∀ s W W', J s W → IterStep own B W W' → J s W') (e : Ear) (c1 : Nat) (A2 : Option Addr) (n2 c2 be bl by_ bn l b o : Nat)
    (hlen : e.tones.length ≤ 3) (hbd : ∀ x ∈ e.tones, 1 ≤ x.mn ∧ x.mn ≤ 100000 ∧ 1 ≤ x.mx ∧ x.mx ≤ 100000)
    (hY : ∀ m pre x W1, J pre W1 → pre.length < N → YieldAt F m Try.prog l #[T3.v x] W1 fun ed W' => ed = .returned (.bool true) ∧ J (pre ++ [x]) W' ∧ BodyStep own W1 W')
    (rest : List Rg) : ∀ (at_ : Nat), at_ + rest.length = e.tones.length → rest = e.tones.drop at_ → ∀ (m : Nat) (t : T3) (pre : List T3) (W : World), Fx own e c1 A2 n2 c2 be bl by_ bn l b o W → J pre W → pre.length + (truthsFrom (fun _ => true) rest at_ t).length ≤ N → B ≤ W.heap.size →
    CallsIn F m Try.prog 105 #[T3.v t, .int .i64 at_, .pointer (some ⟨be, 0, none⟩), .pointer (some ⟨bl, 0, none⟩), .pointer (some ⟨by_, 0, none⟩), .pointer (some ⟨bn, 0, none⟩)] W fun ed W' => ed = .returned (.bool true) ∧ J (pre ++ truthsFrom (fun _ => true) rest at_ t) W' ∧ BodyStep own W W' := by
  induction rest with
  | nil =>
    intro at_ hat hr m t pre W hF hJ hN hB
    obtain rfl : at_ = e.tones.length := by simpa using hat
    exact next_nil F h105 hro hd own J B N ho hWf hJs e c1 A2 n2 c2 be bl by_ bn l b o hY m t pre W hF hJ (by simp [truthsFrom] at hN; omega) hB
  | cons x rest ih =>
    intro at_ hat hr m t pre W hF hJ hN hB
    have hlt : at_ < e.tones.length := by simp at hat; omega
    have hx : e.tones[at_] = x := by rw [List.drop_eq_getElem_cons hlt] at hr; exact (List.cons.inj hr).1.symm
    have hrest : rest = e.tones.drop (at_ + 1) := by rw [List.drop_eq_getElem_cons hlt] at hr; exact (List.cons.inj hr).2
    have hb := hbd x (by rw [← hx]; exact List.getElem_mem hlt)
    have ih' := ih (at_ + 1) (by simp at hat; omega) hrest
    obtain rfl | rfl | rfl : at_ = 0 ∨ at_ = 1 ∨ at_ = 2 := by omega
    · exact next_cons0 F h105 hro hd own J B N ho hWf hJs e c1 A2 n2 c2 be bl by_ bn l b o hlt x hx hb rest ih' m t pre W hF hJ hN hB
    · exact next_cons1 F h105 hro hd own J B N ho hWf hJs e c1 A2 n2 c2 be bl by_ bn l b o hlt x hx hb rest ih' m t pre W hF hJ hN hB
    · exact next_cons2 F h105 hro hd own J B N ho hWf hJs e c1 A2 n2 c2 be bl by_ bn l b o hlt x hx hb rest ih' m t pre W hF hJ hN hB

end Go.Proofs.Ytnclljamcfoolaa
namespace Go.Proofs.Ytnclljamcfoolaa
open Go.RowKit Go.Shelf
attribute [local go_sem] Oper.semAt_some
set_option linter.unusedVariables false
set_option linter.unusedSimpArgs false

structure Fw (e : Ear) (c1 : Nat) (A2 : Option Addr) (n2 c2 : Nat) (be bl b o : Nat) (W : World) : Prop where
  ear : ∀ j, W.cell? ⟨be, j, none⟩ = #[Value.int IntKind.i64 e.slack, Value.slice (some ⟨b, o, none⟩) e.tones.length c1, Value.slice A2 n2 c2][j]?
  lb : W.cell? ⟨bl, 0, none⟩ = some (.slice none 0 0)
  row : ∀ i (h : i < e.tones.length), W.cell? ⟨b, o + i * 2, none⟩ = some (.int .i64 e.tones[i].mn) ∧ W.cell? ⟨b, o + i * 2 + 1, none⟩ = some (.int .i64 e.tones[i].mx)
  lts : be < W.heap.size ∧ bl < W.heap.size ∧ b < W.heap.size
theorem Fw.below {e : Ear} {c1 : Nat} {A2 : Option Addr} {n2 c2 be bl b o : Nat} {w W : World} (h : Fw e c1 A2 n2 c2 be bl b o w) (hB : Below w.heap.size w W) : Fw e c1 A2 n2 c2 be bl b o W := by
  obtain ⟨l1, l2, l3⟩ := h.lts
  have hc := CB.of hB
  have hz := hB.size
  exact ⟨fun j => (hc.1 _ _ l1).trans (h.ear j), (hc.1 _ _ l2).trans h.lb, fun i hi => ⟨(hc.1 _ _ l3).trans (h.row i hi).1, (hc.1 _ _ l3).trans (h.row i hi).2⟩, by omega, by omega, by omega⟩
def allTruths (ok : T3 → Bool) (e : Ear) : List T3 := truthsFrom ok e.tones 0 ⟨0, 0, 0⟩

set_option maxRecDepth 100000 in
set_option maxHeartbeats 2000000 in
theorem truths_seq (F : Fence) (n : Nat) (h104 : F.fn 104) (h105 : F.fn 105) (hro : F.round = none) (hd : F.depth = none) (e : Ear) (c1 : Nat) (A2 : Option Addr) (n2 c2 be bl b o : Nat)
    (hlen : e.tones.length ≤ 3) (hbd : ∀ x ∈ e.tones, 1 ≤ x.mn ∧ x.mn ≤ 100000 ∧ 1 ≤ x.mx ∧ x.mx ≤ 100000) (w : World) (hF : Fw e c1 A2 n2 c2 be bl b o w) :
    SeqO F n Try.prog 104 #[.pointer (some ⟨be, 0, none⟩), .pointer (some ⟨bl, 0, none⟩)] T3.v (fun xs => xs = allTruths (fun _ => true) e) (allTruths (fun _ => true) e).length w := by
  intro l own J W ho hB hown hJs hWf hY hJ0
  have hFW := hF.below hB
  have hdd : ∀ k : Nat, (F.depth.isSome = true → 1 ≤ k) := fun k h => by rw [hd] at h; cases h
  have hY' : ∀ m pre x W1, J pre W1 → pre.length < (allTruths (fun _ => true) e).length → YieldAt F m Try.prog l #[T3.v x] W1 fun ed W' => ed = .returned (.bool true) ∧ J (pre ++ [x]) W' ∧ BodyStep own W1 W' :=
    fun m pre x W1 hj hl => YieldAt_anyDepth hd m (hY pre x W1 hj hl)
  have nos : ∀ k, k < w.heap.size → ¬ own W k := fun k hk h => by have := hown k h; omega
  refine callsIn_of_wp Try.func104 rfl h104 ?_ hro
  simp only [Try.ntmps104, List.size_toArray, List.length_cons, List.length_nil, Nat.reduceAdd, Nat.reduceSub, Array.replicate_succ, Array.replicate_zero, List.push_toArray, List.append_toArray, List.nil_append, List.cons_append]
  gi_wp2
  generalize hV : (W.alloc _).alloc _ = V
  generalize h2_ : W.heap.size + 1 = g2
  generalize h1_ : W.heap.size = g1
  obtain ⟨hB0_, Hg1, Hg2, kg1, kg2, fg1, fg2, lg1, lg2, bg1, bg2, ng12, ng21⟩ := gen2 W _ _ _ _ hV h2_ h1_
  have hit : IterStep own W.heap.size W V := by rw [← hV]; exact ⟨rfl, rfl, rfl, by simp; omega, fun k hk _ => (Below.heap_alloc _ _ k (by simp; omega)).trans (Below.heap_alloc _ _ k hk)⟩
  have hS : BodyStep own W V := BodyStep.of_same ho (hWf _ _ hJ0) hB0_.size (fun k hk => hB0_.block k hk)
  have hFV := hFW.below hB0_
  have n1 : ¬ own V g1 := fun h => by have := (IterStep.own ho (hWf _ _ hJ0) hit g1).1 h; have := hWf _ _ hJ0 _ this; omega
  have n2' : ¬ own V g2 := fun h => by have := (IterStep.own ho (hWf _ _ hJ0) hit g2).1 h; have := hWf _ _ hJ0 _ this; omega
  have n3 : ∀ k, k < w.heap.size → ¬ own V k := fun k hk h => nos k hk ((IterStep.own ho (hWf _ _ hJ0) hit k).1 h)
  have hFx : Fx own e c1 A2 n2 c2 be bl g1 g2 l b o V := by
    obtain ⟨l1, l2, l3⟩ := hFV.lts
    exact ⟨hFV.ear, hFV.lb, kg1 0, by have := kg2 0; subst h1_ h2_; exact this, hFV.row, ⟨l1, l2, lg1, lg2, l3⟩, ⟨n3 _ hF.lts.1, n3 _ hF.lts.2.1, n1, n2', n3 _ hF.lts.2.2⟩⟩
  refine (next_in F h105 hro hd own J W.heap.size (allTruths (fun _ => true) e).length ho hWf hJs e c1 A2 n2 c2 be bl g1 g2 l b o hlen hbd hY' e.tones 0 (by simp) (by simp) (n - 1) ⟨0, 0, 0⟩ [] V hFx (hJs _ _ _ hJ0 hit) (by simp [allTruths]) hB0_.size).mono ?_
  rintro ed W3 ⟨rfl, hJ3, hs3⟩
  gi_wp2
  go_end0
  exact ⟨⟨_, rfl⟩, _, rfl, by simpa [allTruths] using hJ3⟩

end Go.Proofs.Ytnclljamcfoolaa
namespace Go.Proofs.Ytnclljamcfoolaa
open Go.RowKit Go.Shelf Go.Maps
attribute [local go_sem] Oper.semAt_some
set_option linter.unusedVariables false
set_option linter.unusedSimpArgs false

theorem info93 : (Try.prog.info? 93).map (fun i => (i.zero, i.size, i.bytes)) = some (some (.agg #[.int .i64 0, .int .i64 0, .int .i64 0]), 3, 24) := by kernel_rfl

/-- what AppendSeq's body owns: the box Bs of its slice, and the slice's own row -/
def apOwn (Bs : Nat) (W : World) (k : Nat) : Prop := k = Bs ∨ ∃ v, W.cell? ⟨Bs, 0, none⟩ = some v ∧ v.ownBlock = some k
theorem apOwn_ok (Bs : Nat) : OwnOk (apOwn Bs) := fun W W' hw hs hk k => by
  unfold apOwn
  have hc : W'.cell? ⟨Bs, 0, none⟩ = W.cell? ⟨Bs, 0, none⟩ := World.cell?_of_block (w := W) (a := ⟨Bs, 0, none⟩) (hk Bs (.inl rfl))
  rw [hc]
structure ApI (w : World) (ss : List T3) (W : World) : Prop where
  box : ∃ v, W.heap[w.heap.size]? = some (.cells #[v] 88 (0, 0)) ∧ W.ownsRow (w.heap.size + 1) 93 3 v ss.length (flat T3.cs ss) ∧ (v.ownBlock = none ∨ ∃ k, v.ownBlock = some k ∧ w.heap.size + 3 ≤ k)
  below : Below w.heap.size w W
theorem ApI.wf {w : World} {ss : List T3} {W : World} (h : ApI w ss W) : WfOwn (apOwn w.heap.size) W := fun k hk => by
  obtain ⟨v, hv, hr, hb⟩ := h.box
  rcases hk with rfl | ⟨v', hc, hk⟩
  · exact (Array.getElem?_eq_some_iff.1 hv).1
  · rw [cell_of_row _ _ _ _ _ _ hv] at hc
    obtain rfl : v = v' := by simpa using hc
    exact (hr.lt k hk).2
theorem ApI.step {w : World} {ss : List T3} {W W' : World} (h : ApI w ss W) {B : Nat} (hB : w.heap.size ≤ B) (hs : IterStep (apOwn w.heap.size) B W W') : ApI w ss W' := by
  have hwf := h.wf
  obtain ⟨v, hv, hr, hb⟩ := h.box
  have hlt := (Array.getElem?_eq_some_iff.1 hv).1
  have hc := cell_of_row _ _ 0 _ _ _ hv
  refine ⟨⟨v, (hs.keep _ hlt (.inl (.inl rfl))).trans hv, ?_, hb⟩, ⟨hs.os.trans h.below.os, hs.tape.trans h.below.tape, hs.output.trans h.below.output, Nat.le_trans h.below.size hs.size, fun k hk => (hs.keep k (Nat.lt_of_lt_of_le hk h.below.size) (.inr (Nat.lt_of_lt_of_le hk hB))).trans (h.below.block k hk)⟩⟩
  obtain ⟨h1, h2 | ⟨g, cap, cur, rfl, h4, h5, h6⟩⟩ := hr
  · exact ⟨h1, .inl h2⟩
  · have hg : apOwn w.heap.size W g := .inr ⟨_, hc, rfl⟩
    exact ⟨h1, .inr ⟨g, cap, cur, rfl, h4, (hs.keep g (hwf g hg) (.inl hg)).trans h5, h6⟩⟩

set_option maxRecDepth 100000 in
set_option maxHeartbeats 4000000 in
theorem appendSeq_in (F : Fence) (n : Nat) (h109 : F.fn 109) (hro : F.round = none) (hn : 2 ≤ n) (g : Nat) (lb : Array Value) (hFg : F.fn g) (eg : ∀ args w, (callFunc g args).run Try.prog w = .ok (.enter g args) w)
    (S : List T3 → Prop) (N : Nat) (hN : N ≤ maxLen) (hNb : N * 24 ≤ 140737488355328) (w : World) (hseq : SeqO F (n - 1) Try.prog g lb T3.v S N w) :
    CallsIn F n Try.prog 109 #[.slice none 0 0, .func (.func g) #[] lb] w fun e w' => ∃ (v : Value) (ss : List T3), e = .returned v ∧ S ss ∧ w'.ownsRow w.heap.size 93 3 v ss.length (flat T3.cs ss) ∧ Below w.heap.size w w' := by
  have h1 : 1 ≤ n := by omega
  obtain ⟨i0, hi, hz0, hz1, hz2⟩ := info_parts info93
  refine callsIn_of_wp_marks Try.func109 rfl h109 ?_ hro
  simp only [Try.ntmps109, List.size_toArray, List.length_cons, List.length_nil, Nat.reduceAdd, Nat.reduceSub, Array.replicate_succ, Array.replicate_zero, List.push_toArray, List.append_toArray, List.nil_append, List.cons_append]
  gi_wp2
  obtain ⟨W0, hW0⟩ : ∃ W0, w.alloc (.cells #[.slice none 0 0] 88) = W0 := ⟨_, rfl⟩
  have hs0 : W0.heap.size = w.heap.size + 1 := by rw [← hW0]; simp
  have hv0 : W0.heap[w.heap.size]? = some (.cells #[.slice none 0 0] 88 (0, 0)) := by rw [← hW0]; exact World.alloc_heap_new w _
  have hb0 : Below w.heap.size w W0 := by rw [← hW0]; exact (Below.refl _ w).alloc (Nat.le_refl _) _
  rw [hW0]
  refine rangeO hro h1 rfl hFg eg hseq hb0 rfl (apOwn w.heap.size) (apOwn_ok _) ?own2 (fun pre W => ApI w pre W) (fun s W hz hI => hI.wf) (fun s W1 W2 hz hI hst => hI.step (by omega) hst) ?own1 ?start
    (fun x a' W => ∃ gv, w.heap.size + 3 ≤ gv ∧ W.heap[gv]? = some (.cells #[.int .i64 x.a, .int .i64 x.b, .int .i64 x.c] 93 (0, 0)) ∧ a' = { tmps := #[.slice none 0 0, .func (.func g) #[] lb, .pointer (some ⟨w.heap.size, 0, none⟩), undef, .slice none 0 0, .pointer (some ⟨gv, 0, none⟩), .func (.func g) #[] lb, x.v, undef, undef, undef, undef, undef], defers := [] })
    ?ax ?assign ?body ?done
  case own1 =>
    intro s W hz hI k hk
    obtain ⟨v, hv, hr, hb⟩ := hI.box
    rcases hk with rfl | ⟨v', hc, hk⟩
    · omega
    · rw [cell_of_row _ _ _ _ _ _ hv] at hc
      obtain rfl : v = v' := by simpa using hc
      rcases hb with hb | ⟨k', hb, hb2⟩
      · rw [hb] at hk; cases hk
      · rw [hb] at hk; obtain rfl := Option.some.inj hk; omega
  case own2 =>
    intro k hk
    rcases hk with rfl | ⟨v', hc, hk⟩
    · exact Nat.le_refl _
    · rw [cell_of_row _ _ _ _ _ _ hv0] at hc
      obtain rfl : Value.slice none 0 0 = v' := by simpa using hc
      cases hk
  case start => exact ⟨⟨_, hv0, own_nil _ _ _ _, .inl rfl⟩, hb0⟩
  case ax =>
    rintro x a' W1 W2 ⟨gv, hgv, hc, rfl⟩ hk hz
    exact ⟨gv, hgv, (hk gv (by omega)).trans hc, rfl⟩
  case assign =>
    intro l pre x W K hz hI hK
    gi_wp2
    exact hK _ _ (bl_alloc (Below.refl _ W) _) ⟨W.heap.size, by omega, heap_alloc_new W _, rfl⟩
  case body =>
    rintro l pre x a' W hz hI ⟨gv, hgv, hcv, rfl⟩ hlen
    have hwf := hI.wf
    obtain ⟨v, hv, hrow, hbk⟩ := hI.box
    have hc1 := fun k => cell_of_row W gv k _ _ _ hcv
    have hc2 := fun k => cell_of_row W w.heap.size k _ _ _ hv
    have HV := Lib.hid hv
    have hBlt : w.heap.size < W.heap.size := (Array.getElem?_eq_some_iff.1 hv).1
    clear hv
    gi_wp2_with (gi_at_builtin; refine wpListIn_append_own_at _ rfl _ _ 88 rfl (w.heap.size + 1) 93 i0 _ 3 24 Try.underlying88 hi hz0 hz1 hz2 rfl (by decide) v pre.length (flat T3.cs pre) rfl (hrow.alloc _) ⟨W.heap.size, 0, none⟩ 1 1 (T3.cs x) rfl rfl (World.news_of_block (cs := #[.int .i64 x.a, .int .i64 x.b, .int .i64 x.c]) (t := 93) (fr := (0, 0)) (heap_alloc_new _ _)) ?a1 ?a2 ?a3 ?a4 ?_)
    case a1 => simp [Value.oneCell', T3.cs]
    case a2 => omega
    case a3 => omega
    case a4 => simp; omega
    intro v' w3 hown' hgrow _ hat
    obtain ⟨g', cap', rfl⟩ := ownsRow_succ hown'
    have hne : some w.heap.size ≠ v.ownBlock := fun e => by
      have := (hrow.lt _ e.symm).1; omega
    have hv3 : w3.heap[w.heap.size]? = some (.cells #[v] 88 (0, 0)) := (hgrow.block w.heap.size (by simp; omega) hne).trans ((Below.heap_alloc _ _ _ hBlt).trans HV.out)
    have hc3 := cell_of_row w3 w.heap.size 0 _ _ _ hv3
    have hf3 := frozen_row hv3 0
    gi_wp2
    have hg4 : Wrote w3 (w3.setCell ⟨w.heap.size, 0, none⟩ (.slice (some ⟨g', 0, none⟩) (pre.length + 1) cap')) w.heap.size := wrote_setCell _ _ _ _
    have hv4 : (w3.setCell ⟨w.heap.size, 0, none⟩ (.slice (some ⟨g', 0, none⟩) (pre.length + 1) cap')).heap[w.heap.size]? = some (.cells #[.slice (some ⟨g', 0, none⟩) (pre.length + 1) cap'] 88 (0, 0)) := by
      rw [setCell_eq_setRow w3 w.heap.size 0 _ _ _ _ hv3]; exact setRow_heap hv3
    have hz3 : W.heap.size + 1 ≤ w3.heap.size := by have := hgrow.size; simp at this; omega
    have hgb : v.ownBlock = some g' ∨ g' = W.heap.size + 1 := by
      rcases hat with h | h
      · exact .inl h.symm
      · exact .inr (by simpa [Value.ownBlock] using h)
    generalize hW4 : w3.setCell ⟨w.heap.size, 0, none⟩ (.slice (some ⟨g', 0, none⟩) (pre.length + 1) cap') = W4 at hg4 hv4 ⊢
    have hown : ∀ k, apOwn w.heap.size W k ↔ (k = w.heap.size ∨ v.ownBlock = some k) := fun k => by
      unfold apOwn; rw [hc2 0]; simp
    have hown4 : ∀ k, apOwn w.heap.size W4 k ↔ (k = w.heap.size ∨ g' = k) := fun k => by
      unfold apOwn; rw [cell_of_row W4 w.heap.size 0 _ _ _ hv4]; simp [Value.ownBlock]
    refine ⟨⟨by have := hg4.size; omega, ?_, ?_⟩, ⟨⟨_, hv4, ?_, ?_⟩, ?_⟩⟩
    · intro k hk
      rcases (hown4 k).1 hk with h | h
      · exact .inl ((hown k).2 (.inl h))
      · rcases hgb with h' | h'
        · exact .inl ((hown k).2 (.inr (by rw [h', h])))
        · exact .inr (by omega)
    · intro k hk hn
      have h1 : k ≠ w.heap.size := fun h => hn ((hown k).2 (.inl h))
      have h2 : some k ≠ v.ownBlock := fun h => hn ((hown k).2 (.inr h.symm))
      exact (hg4.block k h1).trans ((hgrow.block k (by simp; omega) h2).trans (Below.heap_alloc _ _ _ hk))
    · rw [flat_snoc]
      have hne' : g' ≠ w.heap.size := by
        rcases hgb with h' | h'
        · intro e; exact hne (by rw [h', e])
        · omega
      simp only [List.length_append, List.length_cons, List.length_nil]
      obtain ⟨q1, q2 | ⟨gq, capq, curq, q3, q4, q5, q6⟩⟩ := hown'
      · cases q2.1
      · obtain ⟨rfl, rfl⟩ : g' = gq ∧ cap' = capq := by simpa using q3
        exact ⟨q1, .inr ⟨g', cap', curq, rfl, q4, (hg4.block g' hne').trans q5, q6⟩⟩
    · refine .inr ⟨g', rfl, ?_⟩
      rcases hgb with h' | h'
      · rcases hbk with hb | ⟨k', hb, hb2⟩
        · rw [hb] at h'; cases h'
        · rw [hb] at h'; obtain rfl := Option.some.inj h'; exact hb2
      · omega
    · have hb3 : Below w.heap.size w w3 := bl_grown (bl_alloc hI.below _) (bl_alloc hI.below _).size hgrow (fun q hq => by have := (hrow.lt q hq).1; omega)
      exact hg4.below hb3 (Nat.le_refl _)
  case done =>
    intro xs W hz hS hI hK
    obtain ⟨v, hv, hrow, hbk⟩ := hI.box
    have hc2 := fun k => cell_of_row W w.heap.size k _ _ _ hv
    gi_wp2
    refine ⟨by simp, .inl ⟨_, _, rfl, run_takeDeferred hK, ?_⟩⟩
    refine ⟨_, results_tmp rfl _ _ _, v, xs, rfl, hS, own_weaken (ownsRow_putObj hrow _ hK rfl) (by omega), ?_⟩
    exact (wrote_putObj W W0.heap.size (.deferred none)).below hI.below (by omega)

end Go.Proofs.Ytnclljamcfoolaa
