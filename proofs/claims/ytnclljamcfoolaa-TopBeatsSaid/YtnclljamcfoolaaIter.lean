/- A range over an iterator that keeps variables of its own in memory: what the loop's body owns, and what the iterator owns, are told apart. -/
import Derived.Test.YtnclljamcfoolaaTypes
import Derived.RangeFuncNested
import Derived.RangeFuncBound
import Derived.RangeFuncCalls
import Derived.RangeFuncLeaves
import Derived.RangeFuncGives
import Derived.Shelf.Abstract
import Derived.Shelf.RegionOpen
import Derived.OwnWalkIn
import Derived.TacticsInMore
import Derived.LoopNIn
import Derived.LoopIn
import Derived.Maps.AppendAt
import Derived.Laws.EntriesVeiled
namespace Go.Proofs.Ytnclljamcfoolaa
open Go.RowKit Go.Shelf
set_option linter.unusedVariables false

/-- What the body of a loop owns lies in the heap. -/
def WfOwn (own : World → Nat → Prop) (W : World) : Prop := ∀ k, own W k → k < W.heap.size
/-- What the body of a loop owns hangs on those blocks alone. -/
def OwnOk (own : World → Nat → Prop) : Prop :=
  ∀ W W', WfOwn own W → W.heap.size ≤ W'.heap.size → (∀ k, own W k → W'.heap[k]? = W.heap[k]?) → ∀ k, own W' k ↔ own W k

/-- A step of the iterator's: the body's blocks lie as they lay, and so do all below B. -/
structure IterStep (own : World → Nat → Prop) (B : Nat) (W W' : World) : Prop where
  os : W'.os = W.os
  tape : W'.tape = W.tape
  output : W'.output = W.output
  size : W.heap.size ≤ W'.heap.size
  keep : ∀ k, k < W.heap.size → (own W k ∨ k < B) → W'.heap[k]? = W.heap[k]?

/-- A step of the body's: what it does not own lies as it lay; it owns no old block that it did not own. -/
structure BodyStep (own : World → Nat → Prop) (W W' : World) : Prop where
  size : W.heap.size ≤ W'.heap.size
  owns : ∀ k, own W' k → own W k ∨ W.heap.size ≤ k
  keep : ∀ k, k < W.heap.size → ¬ own W k → W'.heap[k]? = W.heap[k]?

theorem BodyStep.refl (own : World → Nat → Prop) (W : World) : BodyStep own W W := ⟨Nat.le_refl _, fun _ h => .inl h, fun _ _ _ => rfl⟩
theorem BodyStep.trans {own : World → Nat → Prop} {W W1 W2 : World} (h : BodyStep own W W1) (k : BodyStep own W1 W2) : BodyStep own W W2 :=
  ⟨Nat.le_trans h.size k.size, fun b hb => by
      rcases k.owns b hb with h1 | h1
      · exact h.owns b h1
      · exact .inr (Nat.le_trans h.size h1),
    fun b hb hn => by
      have hn1 : ¬ own W1 b := fun h1 => by
        rcases h.owns b h1 with h2 | h2
        · exact hn h2
        · omega
      exact (k.keep b (Nat.lt_of_lt_of_le hb h.size) hn1).trans (h.keep b hb hn)⟩
/-- What the iterator does by itself, as a step. -/
theorem BodyStep.of_same {own : World → Nat → Prop} (ho : OwnOk own) {W W' : World} (hB : WfOwn own W) (hs : W.heap.size ≤ W'.heap.size) (hk : ∀ k, k < W.heap.size → W'.heap[k]? = W.heap[k]?) : BodyStep own W W' :=
  ⟨hs, fun k h => .inl ((ho W W' hB hs (fun k h => hk k (hB k h)) k).1 h), fun k h _ => hk k h⟩
theorem BodyStep.cell {own : World → Nat → Prop} {W W' : World} (h : BodyStep own W W') {b : Nat} (hb : b < W.heap.size) (hn : ¬ own W b) (o : Nat) : W'.cell? ⟨b, o, none⟩ = W.cell? ⟨b, o, none⟩ :=
  World.cell?_of_block (w := W) (a := ⟨b, o, none⟩) (h.keep b hb hn)
theorem BodyStep.frozen {own : World → Nat → Prop} {W W' : World} (h : BodyStep own W W') {b : Nat} (hb : b < W.heap.size) (hn : ¬ own W b) (o : Nat) : W'.frozen? ⟨b, o, none⟩ = W.frozen? ⟨b, o, none⟩ :=
  World.frozen?_of_block (w := W) (a := ⟨b, o, none⟩) (h.keep b hb hn)
theorem BodyStep.not_own {own : World → Nat → Prop} {W W' : World} (h : BodyStep own W W') {b : Nat} (hb : b < W.heap.size) (hn : ¬ own W b) : ¬ own W' b := fun h1 => by
  rcases h.owns b h1 with h2 | h2
  · exact hn h2
  · omega

theorem IterStep.refl (own : World → Nat → Prop) (B : Nat) (W : World) : IterStep own B W W := ⟨rfl, rfl, rfl, Nat.le_refl _, fun _ _ _ => rfl⟩
theorem IterStep.alloc (own : World → Nat → Prop) (B : Nat) (W : World) (o : Obj) : IterStep own B W (W.alloc o) :=
  ⟨rfl, rfl, rfl, by simp, fun k hk _ => Below.heap_alloc W o k hk⟩
theorem IterStep.wrote {own : World → Nat → Prop} {B : Nat} {W W' : World} {g : Nat} (h : Wrote W W' g) (hn : ¬ own W g) (hB : B ≤ g) : IterStep own B W W' :=
  ⟨h.os, h.tape, h.output, by rw [h.size]; exact Nat.le_refl _, fun k hk hk2 => h.block k (fun e => by subst e; rcases hk2 with h1 | h1; exact hn h1; omega)⟩
theorem IterStep.own {own : World → Nat → Prop} (ho : OwnOk own) {B : Nat} {W W' : World} (hB : WfOwn own W) (h : IterStep own B W W') (k : Nat) : own W' k ↔ own W k :=
  ho W W' hB h.size (fun k hk => h.keep k (hB k hk) (.inl hk)) k
theorem wrote_setCell (w : World) (g o : Nat) (v : Value) : Wrote w (w.setCell ⟨g, o, none⟩ v) g :=
  ⟨rfl, rfl, rfl, by simp, fun k hk => Below.heap_setCell w ⟨g, o, none⟩ v k hk⟩

theorem BodyStep.wrote {own : World → Nat → Prop} (ho : OwnOk own) {W W1 W2 : World} (hB : WfOwn own W1) (h : BodyStep own W W1) {g : Nat} (hw : Wrote W1 W2 g) (hg : W.heap.size ≤ g) (hn : ¬ own W1 g) : BodyStep own W W2 := by
  have hk : ∀ k, own W2 k ↔ own W1 k := ho W1 W2 hB (by rw [hw.size]; exact Nat.le_refl _) (fun k hk => hw.block k (fun e => hn (e ▸ hk)))
  exact ⟨by rw [hw.size]; exact h.size, fun k h1 => h.owns k ((hk k).1 h1), fun k hk1 h1 => (hw.block k (by omega)).trans (h.keep k hk1 h1)⟩
theorem BodyStep.alloc_new {own : World → Nat → Prop} (ho : OwnOk own) {W W1 : World} (hB : WfOwn own W1) (h : BodyStep own W W1) (o : Obj) : BodyStep own W (W1.alloc o) :=
  h.trans (BodyStep.of_same ho hB (by simp) (fun k hk => Below.heap_alloc W1 o k hk))
theorem not_own_new {own : World → Nat → Prop} (ho : OwnOk own) (W : World) (hB : WfOwn own W) (o : Obj) : ¬ own (W.alloc o) W.heap.size := fun h => by
  have := (ho W (W.alloc o) hB (by simp) (fun k hk => Below.heap_alloc W o k (hB k hk)) W.heap.size).1 h
  exact absurd (hB _ this) (by omega)

theorem room_of_none' {F : Fence} (hd : F.depth = none) (k : Nat) : F.room k := fun d h => by rw [hd] at h; cases h
theorem RoundIn_anyDepth {F : Fence} (hd : F.depth = none) {m m' : Nat} {P : Program} {l : Nat} {f : FuncId} {tmps : Array Value} {assign body : Code} {w : World} {R : Ending → World → Prop}
    (h : RoundIn F m P l f tmps assign body w R) : RoundIn F m' P l f tmps assign body w R := ⟨h.1, fun c cs _ => h.2 c cs (room_of_none' hd _)⟩
theorem YieldAt_anyDepth {F : Fence} (hd : F.depth = none) {m : Nat} (m' : Nat) {P : Program} {l : Nat} {args : Array Value} {W : World} {R : Ending → World → Prop} (h : YieldAt F m P l args W R) : YieldAt F m' P l args W R := by
  obtain ⟨fn, tmps, assign, body, hy, hR⟩ := h
  exact ⟨fn, tmps, assign, body, hy, RoundIn_anyDepth hd hR⟩

theorem IterStep.wf {own : World → Nat → Prop} (ho : OwnOk own) {B : Nat} {W W' : World} (hB : WfOwn own W) (h : IterStep own B W W') : WfOwn own W' := fun k hk => Nat.lt_of_lt_of_le (hB k ((IterStep.own ho hB h k).1 hk)) h.size

/-- An iterator's contract: whatever the body owns, whatever it keeps (J), so it abides the iterator's steps, and so each round goes on: what comes is some xs of S. -/
def SeqO {α : Type} (F : Fence) (n : Nat) (P : Program) (g : Nat) (lb : Array Value) (enc : α → Value) (S : List α → Prop) (N : Nat) (w : World) : Prop :=
  ∀ (l : Nat) (own : World → Nat → Prop) (J : List α → World → Prop) (W : World), OwnOk own → Below w.heap.size w W → (∀ k, own W k → w.heap.size ≤ k) →
    (∀ s W1 W2, J s W1 → IterStep own W.heap.size W1 W2 → J s W2) →
    (∀ s W1, J s W1 → WfOwn own W1) →
    (∀ pre x W1, J pre W1 → pre.length < N → YieldAt F (n - 1) P l #[enc x] W1 fun e W' => e = .returned (.bool true) ∧ J (pre ++ [x]) W' ∧ BodyStep own W1 W') →
    J [] W →
    CallsIn F n P g (#[.func (.yield l) #[] #[]] ++ lb) W fun e W' => (∃ v, e = .returned v) ∧ ∃ xs, S xs ∧ J xs W'

end Go.Proofs.Ytnclljamcfoolaa
