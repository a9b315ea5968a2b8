/- Words that all walks of this seat use: worlds that grow, boxes, rows. The data of the works, and what is checked of them. -/
import Derived.Test.YtnclljamcfoolaaProg
import Derived.WalkKit
import Derived.Below
import Derived.Deep.QuietTactic
import Derived.BigQuiet
import Derived.Deep.DeepCutAuto
import Derived.Deep.CutBlock
import Derived.Deep.RegionHeld3
import Derived.Deep.AppendLies
import Derived.Lib.Hide
import Derived.OwnWalk
import Derived.Outline
import Derived.IntWalk
import Derived.Laws.Tables
import Derived.Laws.Rows
import Derived.Laws.CopyRow
namespace Go.Proofs.Ytnclljamcfoolaa
open Go.RowKit
set_option linter.unusedVariables false
set_option linter.unusedSimpArgs false

theorem bl_alloc {w W : World} (h : Below w.heap.size w W) (o : Obj) : Below w.heap.size w (W.alloc o) := h.alloc h.size o
theorem bl_drewN {w W : World} (h : Below w.heap.size w W) (n : Nat) : Below w.heap.size w (W.drewN n) := ⟨h.os, h.tape, h.output, h.size, h.block⟩
theorem bl_drew {w W : World} (h : Below w.heap.size w W) : Below w.heap.size w W.drew := ⟨h.os, h.tape, h.output, h.size, h.block⟩
theorem bl_set {w W : World} (h : Below w.heap.size w W) {p : Addr} (hp : w.heap.size ≤ p.block) (u : Value) : Below w.heap.size w (W.setCell p u) := h.setCell hp u
theorem bl_then {w w1 w2 : World} (h : Below w.heap.size w w1) (k : Below w1.heap.size w1 w2) : Below w.heap.size w w2 :=
  h.trans (k.mono h.size)
theorem bl_alloc2 {w W : World} (h : Below w.heap.size w W) (o : Obj) : Below w.heap.size w (W.alloc o) := bl_alloc h o
theorem bl_drew2 {w W : World} (h : Below w.heap.size w W) : Below w.heap.size w W.drew := bl_drew h
theorem bl_drewN2 {w W : World} (h : Below w.heap.size w W) (n : Nat) : Below w.heap.size w (W.drewN n) := bl_drewN h n
theorem bl_then2 {w w1 w2 : World} (h : Below w.heap.size w w1) (k : Below w1.heap.size w1 w2) : Below w.heap.size w w2 := bl_then h k
/-- all that a world W that grew out of W0 gives to the walk -/
theorem CB.of {W0 W : World} (h : Below W0.heap.size W0 W) : (∀ b o, b < W0.heap.size → W.cell? ⟨b, o, none⟩ = W0.cell? ⟨b, o, none⟩) ∧ (∀ b o, b < W0.heap.size → W.frozen? ⟨b, o, none⟩ = W0.frozen? ⟨b, o, none⟩) ∧ (∀ b, b < W0.heap.size → (b = W.heap.size) = False) ∧ (∀ b, b < W0.heap.size → (W.heap.size = b) = False) ∧ (∀ b, b < W0.heap.size → (b < W.heap.size) = True) :=
  ⟨fun b o l => h.cell (p := ⟨b, o, none⟩) l, fun b o l => h.frozen (p := ⟨b, o, none⟩) l, fun b l => by have := h.size; simp; omega, fun b l => by have := h.size; simp; omega, fun b l => by have := h.size; simp; omega⟩
theorem heap_alloc_at (w : World) (o : Obj) (k : Nat) (h : k = w.heap.size) : (w.alloc o).heap[k]? = some o := by subst h; exact heap_alloc_new w o
theorem frozen_row {w : World} {g : Nat} {t : TypeId} {cs : Array Value} (h : w.heap[g]? = some (.cells cs t (0, 0))) (i : Nat) : w.frozen? ⟨g, i, none⟩ = false := by simp [World.frozen?, h]
theorem gen1 (w : World) (c1 : Array Value) (t1 : TypeId) {W : World} (hW : (w.alloc (.cells c1 t1)) = W) {g1 : Nat} (h1 : w.heap.size = g1) :
    Below w.heap.size w W ∧ W.heap[g1]? = some (.cells c1 t1 (0, 0)) ∧ (∀ j, W.cell? ⟨g1, j, none⟩ = c1[j]?) ∧ (∀ j, W.frozen? ⟨g1, j, none⟩ = false) ∧ g1 < W.heap.size ∧ w.heap.size ≤ g1 := by
  subst hW h1
  have H1 : (w.alloc (.cells c1 t1)).heap[w.heap.size]? = some (.cells c1 t1 (0, 0)) := heap_alloc_at w (.cells c1 t1) _ (by simp)
  exact ⟨(bl_alloc (Below.refl _ _) _), H1, (fun j => cell_of_row _ _ j _ _ _ H1), (frozen_row H1), (by simp; try omega), (by omega)⟩
theorem gen2 (w : World) (c1 : Array Value) (t1 : TypeId) (c2 : Array Value) (t2 : TypeId) {W : World} (hW : ((w.alloc (.cells c1 t1)).alloc (.cells c2 t2)) = W) {g1 g2 : Nat} (h2 : w.heap.size + 1 = g2) (h1 : w.heap.size = g1) :
    Below w.heap.size w W ∧ W.heap[g1]? = some (.cells c1 t1 (0, 0)) ∧ W.heap[g2]? = some (.cells c2 t2 (0, 0)) ∧ (∀ j, W.cell? ⟨g1, j, none⟩ = c1[j]?) ∧ (∀ j, W.cell? ⟨g2, j, none⟩ = c2[j]?) ∧ (∀ j, W.frozen? ⟨g1, j, none⟩ = false) ∧ (∀ j, W.frozen? ⟨g2, j, none⟩ = false) ∧ g1 < W.heap.size ∧ g2 < W.heap.size ∧ w.heap.size ≤ g1 ∧ w.heap.size ≤ g2 ∧ (g1 = g2) = False ∧ (g2 = g1) = False := by
  subst hW h1 h2
  have H1 : ((w.alloc (.cells c1 t1)).alloc (.cells c2 t2)).heap[w.heap.size]? = some (.cells c1 t1 (0, 0)) := (Below.heap_alloc (w.alloc (.cells c1 t1)) (.cells c2 t2) _ (by simp; try omega)).trans (heap_alloc_at w (.cells c1 t1) _ (by simp))
  have H2 : ((w.alloc (.cells c1 t1)).alloc (.cells c2 t2)).heap[w.heap.size + 1]? = some (.cells c2 t2 (0, 0)) := heap_alloc_at (w.alloc (.cells c1 t1)) (.cells c2 t2) _ (by simp)
  exact ⟨(bl_alloc (bl_alloc (Below.refl _ _) _) _), H1, H2, (fun j => cell_of_row _ _ j _ _ _ H1), (fun j => cell_of_row _ _ j _ _ _ H2), (frozen_row H1), (frozen_row H2), (by simp; try omega), (by simp; try omega), (by omega), (by omega), (by simp; try omega), (by simp; try omega)⟩
theorem gen3 (w : World) (c1 : Array Value) (t1 : TypeId) (c2 : Array Value) (t2 : TypeId) (c3 : Array Value) (t3 : TypeId) {W : World} (hW : (((w.alloc (.cells c1 t1)).alloc (.cells c2 t2)).alloc (.cells c3 t3)) = W) {g1 g2 g3 : Nat} (h3 : w.heap.size + 1 + 1 = g3) (h2 : w.heap.size + 1 = g2) (h1 : w.heap.size = g1) :
    Below w.heap.size w W ∧ W.heap[g1]? = some (.cells c1 t1 (0, 0)) ∧ W.heap[g2]? = some (.cells c2 t2 (0, 0)) ∧ W.heap[g3]? = some (.cells c3 t3 (0, 0)) ∧ (∀ j, W.cell? ⟨g1, j, none⟩ = c1[j]?) ∧ (∀ j, W.cell? ⟨g2, j, none⟩ = c2[j]?) ∧ (∀ j, W.cell? ⟨g3, j, none⟩ = c3[j]?) ∧ (∀ j, W.frozen? ⟨g1, j, none⟩ = false) ∧ (∀ j, W.frozen? ⟨g2, j, none⟩ = false) ∧ (∀ j, W.frozen? ⟨g3, j, none⟩ = false) ∧ g1 < W.heap.size ∧ g2 < W.heap.size ∧ g3 < W.heap.size ∧ w.heap.size ≤ g1 ∧ w.heap.size ≤ g2 ∧ w.heap.size ≤ g3 ∧ (g1 = g2) = False ∧ (g1 = g3) = False ∧ (g2 = g1) = False ∧ (g2 = g3) = False ∧ (g3 = g1) = False ∧ (g3 = g2) = False := by
  subst hW h1 h2 h3
  have H1 : (((w.alloc (.cells c1 t1)).alloc (.cells c2 t2)).alloc (.cells c3 t3)).heap[w.heap.size]? = some (.cells c1 t1 (0, 0)) := (Below.heap_alloc ((w.alloc (.cells c1 t1)).alloc (.cells c2 t2)) (.cells c3 t3) _ (by simp; try omega)).trans ((Below.heap_alloc (w.alloc (.cells c1 t1)) (.cells c2 t2) _ (by simp; try omega)).trans (heap_alloc_at w (.cells c1 t1) _ (by simp)))
  have H2 : (((w.alloc (.cells c1 t1)).alloc (.cells c2 t2)).alloc (.cells c3 t3)).heap[w.heap.size + 1]? = some (.cells c2 t2 (0, 0)) := (Below.heap_alloc ((w.alloc (.cells c1 t1)).alloc (.cells c2 t2)) (.cells c3 t3) _ (by simp; try omega)).trans (heap_alloc_at (w.alloc (.cells c1 t1)) (.cells c2 t2) _ (by simp))
  have H3 : (((w.alloc (.cells c1 t1)).alloc (.cells c2 t2)).alloc (.cells c3 t3)).heap[w.heap.size + 1 + 1]? = some (.cells c3 t3 (0, 0)) := heap_alloc_at ((w.alloc (.cells c1 t1)).alloc (.cells c2 t2)) (.cells c3 t3) _ (by simp)
  exact ⟨(bl_alloc (bl_alloc (bl_alloc (Below.refl _ _) _) _) _), H1, H2, H3, (fun j => cell_of_row _ _ j _ _ _ H1), (fun j => cell_of_row _ _ j _ _ _ H2), (fun j => cell_of_row _ _ j _ _ _ H3), (frozen_row H1), (frozen_row H2), (frozen_row H3), (by simp; try omega), (by simp; try omega), (by simp; try omega), (by omega), (by omega), (by omega), (by simp; try omega), (by simp; try omega), (by simp; try omega), (by simp; try omega), (by simp; try omega), (by simp; try omega)⟩
theorem gen4 (w : World) (c1 : Array Value) (t1 : TypeId) (c2 : Array Value) (t2 : TypeId) (c3 : Array Value) (t3 : TypeId) (c4 : Array Value) (t4 : TypeId) {W : World} (hW : ((((w.alloc (.cells c1 t1)).alloc (.cells c2 t2)).alloc (.cells c3 t3)).alloc (.cells c4 t4)) = W) {g1 g2 g3 g4 : Nat} (h4 : w.heap.size + 1 + 1 + 1 = g4) (h3 : w.heap.size + 1 + 1 = g3) (h2 : w.heap.size + 1 = g2) (h1 : w.heap.size = g1) :
    Below w.heap.size w W ∧ W.heap[g1]? = some (.cells c1 t1 (0, 0)) ∧ W.heap[g2]? = some (.cells c2 t2 (0, 0)) ∧ W.heap[g3]? = some (.cells c3 t3 (0, 0)) ∧ W.heap[g4]? = some (.cells c4 t4 (0, 0)) ∧ (∀ j, W.cell? ⟨g1, j, none⟩ = c1[j]?) ∧ (∀ j, W.cell? ⟨g2, j, none⟩ = c2[j]?) ∧ (∀ j, W.cell? ⟨g3, j, none⟩ = c3[j]?) ∧ (∀ j, W.cell? ⟨g4, j, none⟩ = c4[j]?) ∧ (∀ j, W.frozen? ⟨g1, j, none⟩ = false) ∧ (∀ j, W.frozen? ⟨g2, j, none⟩ = false) ∧ (∀ j, W.frozen? ⟨g3, j, none⟩ = false) ∧ (∀ j, W.frozen? ⟨g4, j, none⟩ = false) ∧ g1 < W.heap.size ∧ g2 < W.heap.size ∧ g3 < W.heap.size ∧ g4 < W.heap.size ∧ w.heap.size ≤ g1 ∧ w.heap.size ≤ g2 ∧ w.heap.size ≤ g3 ∧ w.heap.size ≤ g4 ∧ (g1 = g2) = False ∧ (g1 = g3) = False ∧ (g1 = g4) = False ∧ (g2 = g1) = False ∧ (g2 = g3) = False ∧ (g2 = g4) = False ∧ (g3 = g1) = False ∧ (g3 = g2) = False ∧ (g3 = g4) = False ∧ (g4 = g1) = False ∧ (g4 = g2) = False ∧ (g4 = g3) = False := by
  subst hW h1 h2 h3 h4
  have H1 : ((((w.alloc (.cells c1 t1)).alloc (.cells c2 t2)).alloc (.cells c3 t3)).alloc (.cells c4 t4)).heap[w.heap.size]? = some (.cells c1 t1 (0, 0)) := (Below.heap_alloc (((w.alloc (.cells c1 t1)).alloc (.cells c2 t2)).alloc (.cells c3 t3)) (.cells c4 t4) _ (by simp; try omega)).trans ((Below.heap_alloc ((w.alloc (.cells c1 t1)).alloc (.cells c2 t2)) (.cells c3 t3) _ (by simp; try omega)).trans ((Below.heap_alloc (w.alloc (.cells c1 t1)) (.cells c2 t2) _ (by simp; try omega)).trans (heap_alloc_at w (.cells c1 t1) _ (by simp))))
  have H2 : ((((w.alloc (.cells c1 t1)).alloc (.cells c2 t2)).alloc (.cells c3 t3)).alloc (.cells c4 t4)).heap[w.heap.size + 1]? = some (.cells c2 t2 (0, 0)) := (Below.heap_alloc (((w.alloc (.cells c1 t1)).alloc (.cells c2 t2)).alloc (.cells c3 t3)) (.cells c4 t4) _ (by simp; try omega)).trans ((Below.heap_alloc ((w.alloc (.cells c1 t1)).alloc (.cells c2 t2)) (.cells c3 t3) _ (by simp; try omega)).trans (heap_alloc_at (w.alloc (.cells c1 t1)) (.cells c2 t2) _ (by simp)))
  have H3 : ((((w.alloc (.cells c1 t1)).alloc (.cells c2 t2)).alloc (.cells c3 t3)).alloc (.cells c4 t4)).heap[w.heap.size + 1 + 1]? = some (.cells c3 t3 (0, 0)) := (Below.heap_alloc (((w.alloc (.cells c1 t1)).alloc (.cells c2 t2)).alloc (.cells c3 t3)) (.cells c4 t4) _ (by simp; try omega)).trans (heap_alloc_at ((w.alloc (.cells c1 t1)).alloc (.cells c2 t2)) (.cells c3 t3) _ (by simp))
  have H4 : ((((w.alloc (.cells c1 t1)).alloc (.cells c2 t2)).alloc (.cells c3 t3)).alloc (.cells c4 t4)).heap[w.heap.size + 1 + 1 + 1]? = some (.cells c4 t4 (0, 0)) := heap_alloc_at (((w.alloc (.cells c1 t1)).alloc (.cells c2 t2)).alloc (.cells c3 t3)) (.cells c4 t4) _ (by simp)
  exact ⟨(bl_alloc (bl_alloc (bl_alloc (bl_alloc (Below.refl _ _) _) _) _) _), H1, H2, H3, H4, (fun j => cell_of_row _ _ j _ _ _ H1), (fun j => cell_of_row _ _ j _ _ _ H2), (fun j => cell_of_row _ _ j _ _ _ H3), (fun j => cell_of_row _ _ j _ _ _ H4), (frozen_row H1), (frozen_row H2), (frozen_row H3), (frozen_row H4), (by simp; try omega), (by simp; try omega), (by simp; try omega), (by simp; try omega), (by omega), (by omega), (by omega), (by omega), (by simp; try omega), (by simp; try omega), (by simp; try omega), (by simp; try omega), (by simp; try omega), (by simp; try omega), (by simp; try omega), (by simp; try omega), (by simp; try omega), (by simp; try omega), (by simp; try omega), (by simp; try omega)⟩
theorem gen5 (w : World) (c1 : Array Value) (t1 : TypeId) (c2 : Array Value) (t2 : TypeId) (c3 : Array Value) (t3 : TypeId) (c4 : Array Value) (t4 : TypeId) (c5 : Array Value) (t5 : TypeId) {W : World} (hW : (((((w.alloc (.cells c1 t1)).alloc (.cells c2 t2)).alloc (.cells c3 t3)).alloc (.cells c4 t4)).alloc (.cells c5 t5)) = W) {g1 g2 g3 g4 g5 : Nat} (h5 : w.heap.size + 1 + 1 + 1 + 1 = g5) (h4 : w.heap.size + 1 + 1 + 1 = g4) (h3 : w.heap.size + 1 + 1 = g3) (h2 : w.heap.size + 1 = g2) (h1 : w.heap.size = g1) :
    Below w.heap.size w W ∧ W.heap[g1]? = some (.cells c1 t1 (0, 0)) ∧ W.heap[g2]? = some (.cells c2 t2 (0, 0)) ∧ W.heap[g3]? = some (.cells c3 t3 (0, 0)) ∧ W.heap[g4]? = some (.cells c4 t4 (0, 0)) ∧ W.heap[g5]? = some (.cells c5 t5 (0, 0)) ∧ (∀ j, W.cell? ⟨g1, j, none⟩ = c1[j]?) ∧ (∀ j, W.cell? ⟨g2, j, none⟩ = c2[j]?) ∧ (∀ j, W.cell? ⟨g3, j, none⟩ = c3[j]?) ∧ (∀ j, W.cell? ⟨g4, j, none⟩ = c4[j]?) ∧ (∀ j, W.cell? ⟨g5, j, none⟩ = c5[j]?) ∧ (∀ j, W.frozen? ⟨g1, j, none⟩ = false) ∧ (∀ j, W.frozen? ⟨g2, j, none⟩ = false) ∧ (∀ j, W.frozen? ⟨g3, j, none⟩ = false) ∧ (∀ j, W.frozen? ⟨g4, j, none⟩ = false) ∧ (∀ j, W.frozen? ⟨g5, j, none⟩ = false) ∧ g1 < W.heap.size ∧ g2 < W.heap.size ∧ g3 < W.heap.size ∧ g4 < W.heap.size ∧ g5 < W.heap.size ∧ w.heap.size ≤ g1 ∧ w.heap.size ≤ g2 ∧ w.heap.size ≤ g3 ∧ w.heap.size ≤ g4 ∧ w.heap.size ≤ g5 ∧ (g1 = g2) = False ∧ (g1 = g3) = False ∧ (g1 = g4) = False ∧ (g1 = g5) = False ∧ (g2 = g1) = False ∧ (g2 = g3) = False ∧ (g2 = g4) = False ∧ (g2 = g5) = False ∧ (g3 = g1) = False ∧ (g3 = g2) = False ∧ (g3 = g4) = False ∧ (g3 = g5) = False ∧ (g4 = g1) = False ∧ (g4 = g2) = False ∧ (g4 = g3) = False ∧ (g4 = g5) = False ∧ (g5 = g1) = False ∧ (g5 = g2) = False ∧ (g5 = g3) = False ∧ (g5 = g4) = False := by
  subst hW h1 h2 h3 h4 h5
  have H1 : (((((w.alloc (.cells c1 t1)).alloc (.cells c2 t2)).alloc (.cells c3 t3)).alloc (.cells c4 t4)).alloc (.cells c5 t5)).heap[w.heap.size]? = some (.cells c1 t1 (0, 0)) := (Below.heap_alloc ((((w.alloc (.cells c1 t1)).alloc (.cells c2 t2)).alloc (.cells c3 t3)).alloc (.cells c4 t4)) (.cells c5 t5) _ (by simp; try omega)).trans ((Below.heap_alloc (((w.alloc (.cells c1 t1)).alloc (.cells c2 t2)).alloc (.cells c3 t3)) (.cells c4 t4) _ (by simp; try omega)).trans ((Below.heap_alloc ((w.alloc (.cells c1 t1)).alloc (.cells c2 t2)) (.cells c3 t3) _ (by simp; try omega)).trans ((Below.heap_alloc (w.alloc (.cells c1 t1)) (.cells c2 t2) _ (by simp; try omega)).trans (heap_alloc_at w (.cells c1 t1) _ (by simp)))))
  have H2 : (((((w.alloc (.cells c1 t1)).alloc (.cells c2 t2)).alloc (.cells c3 t3)).alloc (.cells c4 t4)).alloc (.cells c5 t5)).heap[w.heap.size + 1]? = some (.cells c2 t2 (0, 0)) := (Below.heap_alloc ((((w.alloc (.cells c1 t1)).alloc (.cells c2 t2)).alloc (.cells c3 t3)).alloc (.cells c4 t4)) (.cells c5 t5) _ (by simp; try omega)).trans ((Below.heap_alloc (((w.alloc (.cells c1 t1)).alloc (.cells c2 t2)).alloc (.cells c3 t3)) (.cells c4 t4) _ (by simp; try omega)).trans ((Below.heap_alloc ((w.alloc (.cells c1 t1)).alloc (.cells c2 t2)) (.cells c3 t3) _ (by simp; try omega)).trans (heap_alloc_at (w.alloc (.cells c1 t1)) (.cells c2 t2) _ (by simp))))
  have H3 : (((((w.alloc (.cells c1 t1)).alloc (.cells c2 t2)).alloc (.cells c3 t3)).alloc (.cells c4 t4)).alloc (.cells c5 t5)).heap[w.heap.size + 1 + 1]? = some (.cells c3 t3 (0, 0)) := (Below.heap_alloc ((((w.alloc (.cells c1 t1)).alloc (.cells c2 t2)).alloc (.cells c3 t3)).alloc (.cells c4 t4)) (.cells c5 t5) _ (by simp; try omega)).trans ((Below.heap_alloc (((w.alloc (.cells c1 t1)).alloc (.cells c2 t2)).alloc (.cells c3 t3)) (.cells c4 t4) _ (by simp; try omega)).trans (heap_alloc_at ((w.alloc (.cells c1 t1)).alloc (.cells c2 t2)) (.cells c3 t3) _ (by simp)))
  have H4 : (((((w.alloc (.cells c1 t1)).alloc (.cells c2 t2)).alloc (.cells c3 t3)).alloc (.cells c4 t4)).alloc (.cells c5 t5)).heap[w.heap.size + 1 + 1 + 1]? = some (.cells c4 t4 (0, 0)) := (Below.heap_alloc ((((w.alloc (.cells c1 t1)).alloc (.cells c2 t2)).alloc (.cells c3 t3)).alloc (.cells c4 t4)) (.cells c5 t5) _ (by simp; try omega)).trans (heap_alloc_at (((w.alloc (.cells c1 t1)).alloc (.cells c2 t2)).alloc (.cells c3 t3)) (.cells c4 t4) _ (by simp))
  have H5 : (((((w.alloc (.cells c1 t1)).alloc (.cells c2 t2)).alloc (.cells c3 t3)).alloc (.cells c4 t4)).alloc (.cells c5 t5)).heap[w.heap.size + 1 + 1 + 1 + 1]? = some (.cells c5 t5 (0, 0)) := heap_alloc_at ((((w.alloc (.cells c1 t1)).alloc (.cells c2 t2)).alloc (.cells c3 t3)).alloc (.cells c4 t4)) (.cells c5 t5) _ (by simp)
  exact ⟨(bl_alloc (bl_alloc (bl_alloc (bl_alloc (bl_alloc (Below.refl _ _) _) _) _) _) _), H1, H2, H3, H4, H5, (fun j => cell_of_row _ _ j _ _ _ H1), (fun j => cell_of_row _ _ j _ _ _ H2), (fun j => cell_of_row _ _ j _ _ _ H3), (fun j => cell_of_row _ _ j _ _ _ H4), (fun j => cell_of_row _ _ j _ _ _ H5), (frozen_row H1), (frozen_row H2), (frozen_row H3), (frozen_row H4), (frozen_row H5), (by simp; try omega), (by simp; try omega), (by simp; try omega), (by simp; try omega), (by simp; try omega), (by omega), (by omega), (by omega), (by omega), (by omega), (by simp; try omega), (by simp; try omega), (by simp; try omega), (by simp; try omega), (by simp; try omega), (by simp; try omega), (by simp; try omega), (by simp; try omega), (by simp; try omega), (by simp; try omega), (by simp; try omega), (by simp; try omega), (by simp; try omega), (by simp; try omega), (by simp; try omega), (by simp; try omega), (by simp; try omega), (by simp; try omega), (by simp; try omega), (by simp; try omega)⟩
theorem gen6 (w : World) (c1 : Array Value) (t1 : TypeId) (c2 : Array Value) (t2 : TypeId) (c3 : Array Value) (t3 : TypeId) (c4 : Array Value) (t4 : TypeId) (c5 : Array Value) (t5 : TypeId) (c6 : Array Value) (t6 : TypeId) {W : World} (hW : ((((((w.alloc (.cells c1 t1)).alloc (.cells c2 t2)).alloc (.cells c3 t3)).alloc (.cells c4 t4)).alloc (.cells c5 t5)).alloc (.cells c6 t6)) = W) {g1 g2 g3 g4 g5 g6 : Nat} (h6 : w.heap.size + 1 + 1 + 1 + 1 + 1 = g6) (h5 : w.heap.size + 1 + 1 + 1 + 1 = g5) (h4 : w.heap.size + 1 + 1 + 1 = g4) (h3 : w.heap.size + 1 + 1 = g3) (h2 : w.heap.size + 1 = g2) (h1 : w.heap.size = g1) :
    Below w.heap.size w W ∧ W.heap[g1]? = some (.cells c1 t1 (0, 0)) ∧ W.heap[g2]? = some (.cells c2 t2 (0, 0)) ∧ W.heap[g3]? = some (.cells c3 t3 (0, 0)) ∧ W.heap[g4]? = some (.cells c4 t4 (0, 0)) ∧ W.heap[g5]? = some (.cells c5 t5 (0, 0)) ∧ W.heap[g6]? = some (.cells c6 t6 (0, 0)) ∧ (∀ j, W.cell? ⟨g1, j, none⟩ = c1[j]?) ∧ (∀ j, W.cell? ⟨g2, j, none⟩ = c2[j]?) ∧ (∀ j, W.cell? ⟨g3, j, none⟩ = c3[j]?) ∧ (∀ j, W.cell? ⟨g4, j, none⟩ = c4[j]?) ∧ (∀ j, W.cell? ⟨g5, j, none⟩ = c5[j]?) ∧ (∀ j, W.cell? ⟨g6, j, none⟩ = c6[j]?) ∧ (∀ j, W.frozen? ⟨g1, j, none⟩ = false) ∧ (∀ j, W.frozen? ⟨g2, j, none⟩ = false) ∧ (∀ j, W.frozen? ⟨g3, j, none⟩ = false) ∧ (∀ j, W.frozen? ⟨g4, j, none⟩ = false) ∧ (∀ j, W.frozen? ⟨g5, j, none⟩ = false) ∧ (∀ j, W.frozen? ⟨g6, j, none⟩ = false) ∧ g1 < W.heap.size ∧ g2 < W.heap.size ∧ g3 < W.heap.size ∧ g4 < W.heap.size ∧ g5 < W.heap.size ∧ g6 < W.heap.size ∧ w.heap.size ≤ g1 ∧ w.heap.size ≤ g2 ∧ w.heap.size ≤ g3 ∧ w.heap.size ≤ g4 ∧ w.heap.size ≤ g5 ∧ w.heap.size ≤ g6 ∧ (g1 = g2) = False ∧ (g1 = g3) = False ∧ (g1 = g4) = False ∧ (g1 = g5) = False ∧ (g1 = g6) = False ∧ (g2 = g1) = False ∧ (g2 = g3) = False ∧ (g2 = g4) = False ∧ (g2 = g5) = False ∧ (g2 = g6) = False ∧ (g3 = g1) = False ∧ (g3 = g2) = False ∧ (g3 = g4) = False ∧ (g3 = g5) = False ∧ (g3 = g6) = False ∧ (g4 = g1) = False ∧ (g4 = g2) = False ∧ (g4 = g3) = False ∧ (g4 = g5) = False ∧ (g4 = g6) = False ∧ (g5 = g1) = False ∧ (g5 = g2) = False ∧ (g5 = g3) = False ∧ (g5 = g4) = False ∧ (g5 = g6) = False ∧ (g6 = g1) = False ∧ (g6 = g2) = False ∧ (g6 = g3) = False ∧ (g6 = g4) = False ∧ (g6 = g5) = False := by
  subst hW h1 h2 h3 h4 h5 h6
  have H1 : ((((((w.alloc (.cells c1 t1)).alloc (.cells c2 t2)).alloc (.cells c3 t3)).alloc (.cells c4 t4)).alloc (.cells c5 t5)).alloc (.cells c6 t6)).heap[w.heap.size]? = some (.cells c1 t1 (0, 0)) := (Below.heap_alloc (((((w.alloc (.cells c1 t1)).alloc (.cells c2 t2)).alloc (.cells c3 t3)).alloc (.cells c4 t4)).alloc (.cells c5 t5)) (.cells c6 t6) _ (by simp; try omega)).trans ((Below.heap_alloc ((((w.alloc (.cells c1 t1)).alloc (.cells c2 t2)).alloc (.cells c3 t3)).alloc (.cells c4 t4)) (.cells c5 t5) _ (by simp; try omega)).trans ((Below.heap_alloc (((w.alloc (.cells c1 t1)).alloc (.cells c2 t2)).alloc (.cells c3 t3)) (.cells c4 t4) _ (by simp; try omega)).trans ((Below.heap_alloc ((w.alloc (.cells c1 t1)).alloc (.cells c2 t2)) (.cells c3 t3) _ (by simp; try omega)).trans ((Below.heap_alloc (w.alloc (.cells c1 t1)) (.cells c2 t2) _ (by simp; try omega)).trans (heap_alloc_at w (.cells c1 t1) _ (by simp))))))
  have H2 : ((((((w.alloc (.cells c1 t1)).alloc (.cells c2 t2)).alloc (.cells c3 t3)).alloc (.cells c4 t4)).alloc (.cells c5 t5)).alloc (.cells c6 t6)).heap[w.heap.size + 1]? = some (.cells c2 t2 (0, 0)) := (Below.heap_alloc (((((w.alloc (.cells c1 t1)).alloc (.cells c2 t2)).alloc (.cells c3 t3)).alloc (.cells c4 t4)).alloc (.cells c5 t5)) (.cells c6 t6) _ (by simp; try omega)).trans ((Below.heap_alloc ((((w.alloc (.cells c1 t1)).alloc (.cells c2 t2)).alloc (.cells c3 t3)).alloc (.cells c4 t4)) (.cells c5 t5) _ (by simp; try omega)).trans ((Below.heap_alloc (((w.alloc (.cells c1 t1)).alloc (.cells c2 t2)).alloc (.cells c3 t3)) (.cells c4 t4) _ (by simp; try omega)).trans ((Below.heap_alloc ((w.alloc (.cells c1 t1)).alloc (.cells c2 t2)) (.cells c3 t3) _ (by simp; try omega)).trans (heap_alloc_at (w.alloc (.cells c1 t1)) (.cells c2 t2) _ (by simp)))))
  have H3 : ((((((w.alloc (.cells c1 t1)).alloc (.cells c2 t2)).alloc (.cells c3 t3)).alloc (.cells c4 t4)).alloc (.cells c5 t5)).alloc (.cells c6 t6)).heap[w.heap.size + 1 + 1]? = some (.cells c3 t3 (0, 0)) := (Below.heap_alloc (((((w.alloc (.cells c1 t1)).alloc (.cells c2 t2)).alloc (.cells c3 t3)).alloc (.cells c4 t4)).alloc (.cells c5 t5)) (.cells c6 t6) _ (by simp; try omega)).trans ((Below.heap_alloc ((((w.alloc (.cells c1 t1)).alloc (.cells c2 t2)).alloc (.cells c3 t3)).alloc (.cells c4 t4)) (.cells c5 t5) _ (by simp; try omega)).trans ((Below.heap_alloc (((w.alloc (.cells c1 t1)).alloc (.cells c2 t2)).alloc (.cells c3 t3)) (.cells c4 t4) _ (by simp; try omega)).trans (heap_alloc_at ((w.alloc (.cells c1 t1)).alloc (.cells c2 t2)) (.cells c3 t3) _ (by simp))))
  have H4 : ((((((w.alloc (.cells c1 t1)).alloc (.cells c2 t2)).alloc (.cells c3 t3)).alloc (.cells c4 t4)).alloc (.cells c5 t5)).alloc (.cells c6 t6)).heap[w.heap.size + 1 + 1 + 1]? = some (.cells c4 t4 (0, 0)) := (Below.heap_alloc (((((w.alloc (.cells c1 t1)).alloc (.cells c2 t2)).alloc (.cells c3 t3)).alloc (.cells c4 t4)).alloc (.cells c5 t5)) (.cells c6 t6) _ (by simp; try omega)).trans ((Below.heap_alloc ((((w.alloc (.cells c1 t1)).alloc (.cells c2 t2)).alloc (.cells c3 t3)).alloc (.cells c4 t4)) (.cells c5 t5) _ (by simp; try omega)).trans (heap_alloc_at (((w.alloc (.cells c1 t1)).alloc (.cells c2 t2)).alloc (.cells c3 t3)) (.cells c4 t4) _ (by simp)))
  have H5 : ((((((w.alloc (.cells c1 t1)).alloc (.cells c2 t2)).alloc (.cells c3 t3)).alloc (.cells c4 t4)).alloc (.cells c5 t5)).alloc (.cells c6 t6)).heap[w.heap.size + 1 + 1 + 1 + 1]? = some (.cells c5 t5 (0, 0)) := (Below.heap_alloc (((((w.alloc (.cells c1 t1)).alloc (.cells c2 t2)).alloc (.cells c3 t3)).alloc (.cells c4 t4)).alloc (.cells c5 t5)) (.cells c6 t6) _ (by simp; try omega)).trans (heap_alloc_at ((((w.alloc (.cells c1 t1)).alloc (.cells c2 t2)).alloc (.cells c3 t3)).alloc (.cells c4 t4)) (.cells c5 t5) _ (by simp))
  have H6 : ((((((w.alloc (.cells c1 t1)).alloc (.cells c2 t2)).alloc (.cells c3 t3)).alloc (.cells c4 t4)).alloc (.cells c5 t5)).alloc (.cells c6 t6)).heap[w.heap.size + 1 + 1 + 1 + 1 + 1]? = some (.cells c6 t6 (0, 0)) := heap_alloc_at (((((w.alloc (.cells c1 t1)).alloc (.cells c2 t2)).alloc (.cells c3 t3)).alloc (.cells c4 t4)).alloc (.cells c5 t5)) (.cells c6 t6) _ (by simp)
  exact ⟨(bl_alloc (bl_alloc (bl_alloc (bl_alloc (bl_alloc (bl_alloc (Below.refl _ _) _) _) _) _) _) _), H1, H2, H3, H4, H5, H6, (fun j => cell_of_row _ _ j _ _ _ H1), (fun j => cell_of_row _ _ j _ _ _ H2), (fun j => cell_of_row _ _ j _ _ _ H3), (fun j => cell_of_row _ _ j _ _ _ H4), (fun j => cell_of_row _ _ j _ _ _ H5), (fun j => cell_of_row _ _ j _ _ _ H6), (frozen_row H1), (frozen_row H2), (frozen_row H3), (frozen_row H4), (frozen_row H5), (frozen_row H6), (by simp; try omega), (by simp; try omega), (by simp; try omega), (by simp; try omega), (by simp; try omega), (by simp; try omega), (by omega), (by omega), (by omega), (by omega), (by omega), (by omega), (by simp; try omega), (by simp; try omega), (by simp; try omega), (by simp; try omega), (by simp; try omega), (by simp; try omega), (by simp; try omega), (by simp; try omega), (by simp; try omega), (by simp; try omega), (by simp; try omega), (by simp; try omega), (by simp; try omega), (by simp; try omega), (by simp; try omega), (by simp; try omega), (by simp; try omega), (by simp; try omega), (by simp; try omega), (by simp; try omega), (by simp; try omega), (by simp; try omega), (by simp; try omega), (by simp; try omega), (by simp; try omega), (by simp; try omega), (by simp; try omega), (by simp; try omega), (by simp; try omega), (by simp; try omega)⟩
theorem gen7 (w : World) (c1 : Array Value) (t1 : TypeId) (c2 : Array Value) (t2 : TypeId) (c3 : Array Value) (t3 : TypeId) (c4 : Array Value) (t4 : TypeId) (c5 : Array Value) (t5 : TypeId) (c6 : Array Value) (t6 : TypeId) (c7 : Array Value) (t7 : TypeId) {W : World} (hW : (((((((w.alloc (.cells c1 t1)).alloc (.cells c2 t2)).alloc (.cells c3 t3)).alloc (.cells c4 t4)).alloc (.cells c5 t5)).alloc (.cells c6 t6)).alloc (.cells c7 t7)) = W) {g1 g2 g3 g4 g5 g6 g7 : Nat} (h7 : w.heap.size + 1 + 1 + 1 + 1 + 1 + 1 = g7) (h6 : w.heap.size + 1 + 1 + 1 + 1 + 1 = g6) (h5 : w.heap.size + 1 + 1 + 1 + 1 = g5) (h4 : w.heap.size + 1 + 1 + 1 = g4) (h3 : w.heap.size + 1 + 1 = g3) (h2 : w.heap.size + 1 = g2) (h1 : w.heap.size = g1) :
    Below w.heap.size w W ∧ W.heap[g1]? = some (.cells c1 t1 (0, 0)) ∧ W.heap[g2]? = some (.cells c2 t2 (0, 0)) ∧ W.heap[g3]? = some (.cells c3 t3 (0, 0)) ∧ W.heap[g4]? = some (.cells c4 t4 (0, 0)) ∧ W.heap[g5]? = some (.cells c5 t5 (0, 0)) ∧ W.heap[g6]? = some (.cells c6 t6 (0, 0)) ∧ W.heap[g7]? = some (.cells c7 t7 (0, 0)) ∧ (∀ j, W.cell? ⟨g1, j, none⟩ = c1[j]?) ∧ (∀ j, W.cell? ⟨g2, j, none⟩ = c2[j]?) ∧ (∀ j, W.cell? ⟨g3, j, none⟩ = c3[j]?) ∧ (∀ j, W.cell? ⟨g4, j, none⟩ = c4[j]?) ∧ (∀ j, W.cell? ⟨g5, j, none⟩ = c5[j]?) ∧ (∀ j, W.cell? ⟨g6, j, none⟩ = c6[j]?) ∧ (∀ j, W.cell? ⟨g7, j, none⟩ = c7[j]?) ∧ (∀ j, W.frozen? ⟨g1, j, none⟩ = false) ∧ (∀ j, W.frozen? ⟨g2, j, none⟩ = false) ∧ (∀ j, W.frozen? ⟨g3, j, none⟩ = false) ∧ (∀ j, W.frozen? ⟨g4, j, none⟩ = false) ∧ (∀ j, W.frozen? ⟨g5, j, none⟩ = false) ∧ (∀ j, W.frozen? ⟨g6, j, none⟩ = false) ∧ (∀ j, W.frozen? ⟨g7, j, none⟩ = false) ∧ g1 < W.heap.size ∧ g2 < W.heap.size ∧ g3 < W.heap.size ∧ g4 < W.heap.size ∧ g5 < W.heap.size ∧ g6 < W.heap.size ∧ g7 < W.heap.size ∧ w.heap.size ≤ g1 ∧ w.heap.size ≤ g2 ∧ w.heap.size ≤ g3 ∧ w.heap.size ≤ g4 ∧ w.heap.size ≤ g5 ∧ w.heap.size ≤ g6 ∧ w.heap.size ≤ g7 ∧ (g1 = g2) = False ∧ (g1 = g3) = False ∧ (g1 = g4) = False ∧ (g1 = g5) = False ∧ (g1 = g6) = False ∧ (g1 = g7) = False ∧ (g2 = g1) = False ∧ (g2 = g3) = False ∧ (g2 = g4) = False ∧ (g2 = g5) = False ∧ (g2 = g6) = False ∧ (g2 = g7) = False ∧ (g3 = g1) = False ∧ (g3 = g2) = False ∧ (g3 = g4) = False ∧ (g3 = g5) = False ∧ (g3 = g6) = False ∧ (g3 = g7) = False ∧ (g4 = g1) = False ∧ (g4 = g2) = False ∧ (g4 = g3) = False ∧ (g4 = g5) = False ∧ (g4 = g6) = False ∧ (g4 = g7) = False ∧ (g5 = g1) = False ∧ (g5 = g2) = False ∧ (g5 = g3) = False ∧ (g5 = g4) = False ∧ (g5 = g6) = False ∧ (g5 = g7) = False ∧ (g6 = g1) = False ∧ (g6 = g2) = False ∧ (g6 = g3) = False ∧ (g6 = g4) = False ∧ (g6 = g5) = False ∧ (g6 = g7) = False ∧ (g7 = g1) = False ∧ (g7 = g2) = False ∧ (g7 = g3) = False ∧ (g7 = g4) = False ∧ (g7 = g5) = False ∧ (g7 = g6) = False := by
  subst hW h1 h2 h3 h4 h5 h6 h7
  have H1 : (((((((w.alloc (.cells c1 t1)).alloc (.cells c2 t2)).alloc (.cells c3 t3)).alloc (.cells c4 t4)).alloc (.cells c5 t5)).alloc (.cells c6 t6)).alloc (.cells c7 t7)).heap[w.heap.size]? = some (.cells c1 t1 (0, 0)) := (Below.heap_alloc ((((((w.alloc (.cells c1 t1)).alloc (.cells c2 t2)).alloc (.cells c3 t3)).alloc (.cells c4 t4)).alloc (.cells c5 t5)).alloc (.cells c6 t6)) (.cells c7 t7) _ (by simp; try omega)).trans ((Below.heap_alloc (((((w.alloc (.cells c1 t1)).alloc (.cells c2 t2)).alloc (.cells c3 t3)).alloc (.cells c4 t4)).alloc (.cells c5 t5)) (.cells c6 t6) _ (by simp; try omega)).trans ((Below.heap_alloc ((((w.alloc (.cells c1 t1)).alloc (.cells c2 t2)).alloc (.cells c3 t3)).alloc (.cells c4 t4)) (.cells c5 t5) _ (by simp; try omega)).trans ((Below.heap_alloc (((w.alloc (.cells c1 t1)).alloc (.cells c2 t2)).alloc (.cells c3 t3)) (.cells c4 t4) _ (by simp; try omega)).trans ((Below.heap_alloc ((w.alloc (.cells c1 t1)).alloc (.cells c2 t2)) (.cells c3 t3) _ (by simp; try omega)).trans ((Below.heap_alloc (w.alloc (.cells c1 t1)) (.cells c2 t2) _ (by simp; try omega)).trans (heap_alloc_at w (.cells c1 t1) _ (by simp)))))))
  have H2 : (((((((w.alloc (.cells c1 t1)).alloc (.cells c2 t2)).alloc (.cells c3 t3)).alloc (.cells c4 t4)).alloc (.cells c5 t5)).alloc (.cells c6 t6)).alloc (.cells c7 t7)).heap[w.heap.size + 1]? = some (.cells c2 t2 (0, 0)) := (Below.heap_alloc ((((((w.alloc (.cells c1 t1)).alloc (.cells c2 t2)).alloc (.cells c3 t3)).alloc (.cells c4 t4)).alloc (.cells c5 t5)).alloc (.cells c6 t6)) (.cells c7 t7) _ (by simp; try omega)).trans ((Below.heap_alloc (((((w.alloc (.cells c1 t1)).alloc (.cells c2 t2)).alloc (.cells c3 t3)).alloc (.cells c4 t4)).alloc (.cells c5 t5)) (.cells c6 t6) _ (by simp; try omega)).trans ((Below.heap_alloc ((((w.alloc (.cells c1 t1)).alloc (.cells c2 t2)).alloc (.cells c3 t3)).alloc (.cells c4 t4)) (.cells c5 t5) _ (by simp; try omega)).trans ((Below.heap_alloc (((w.alloc (.cells c1 t1)).alloc (.cells c2 t2)).alloc (.cells c3 t3)) (.cells c4 t4) _ (by simp; try omega)).trans ((Below.heap_alloc ((w.alloc (.cells c1 t1)).alloc (.cells c2 t2)) (.cells c3 t3) _ (by simp; try omega)).trans (heap_alloc_at (w.alloc (.cells c1 t1)) (.cells c2 t2) _ (by simp))))))
  have H3 : (((((((w.alloc (.cells c1 t1)).alloc (.cells c2 t2)).alloc (.cells c3 t3)).alloc (.cells c4 t4)).alloc (.cells c5 t5)).alloc (.cells c6 t6)).alloc (.cells c7 t7)).heap[w.heap.size + 1 + 1]? = some (.cells c3 t3 (0, 0)) := (Below.heap_alloc ((((((w.alloc (.cells c1 t1)).alloc (.cells c2 t2)).alloc (.cells c3 t3)).alloc (.cells c4 t4)).alloc (.cells c5 t5)).alloc (.cells c6 t6)) (.cells c7 t7) _ (by simp; try omega)).trans ((Below.heap_alloc (((((w.alloc (.cells c1 t1)).alloc (.cells c2 t2)).alloc (.cells c3 t3)).alloc (.cells c4 t4)).alloc (.cells c5 t5)) (.cells c6 t6) _ (by simp; try omega)).trans ((Below.heap_alloc ((((w.alloc (.cells c1 t1)).alloc (.cells c2 t2)).alloc (.cells c3 t3)).alloc (.cells c4 t4)) (.cells c5 t5) _ (by simp; try omega)).trans ((Below.heap_alloc (((w.alloc (.cells c1 t1)).alloc (.cells c2 t2)).alloc (.cells c3 t3)) (.cells c4 t4) _ (by simp; try omega)).trans (heap_alloc_at ((w.alloc (.cells c1 t1)).alloc (.cells c2 t2)) (.cells c3 t3) _ (by simp)))))
  have H4 : (((((((w.alloc (.cells c1 t1)).alloc (.cells c2 t2)).alloc (.cells c3 t3)).alloc (.cells c4 t4)).alloc (.cells c5 t5)).alloc (.cells c6 t6)).alloc (.cells c7 t7)).heap[w.heap.size + 1 + 1 + 1]? = some (.cells c4 t4 (0, 0)) := (Below.heap_alloc ((((((w.alloc (.cells c1 t1)).alloc (.cells c2 t2)).alloc (.cells c3 t3)).alloc (.cells c4 t4)).alloc (.cells c5 t5)).alloc (.cells c6 t6)) (.cells c7 t7) _ (by simp; try omega)).trans ((Below.heap_alloc (((((w.alloc (.cells c1 t1)).alloc (.cells c2 t2)).alloc (.cells c3 t3)).alloc (.cells c4 t4)).alloc (.cells c5 t5)) (.cells c6 t6) _ (by simp; try omega)).trans ((Below.heap_alloc ((((w.alloc (.cells c1 t1)).alloc (.cells c2 t2)).alloc (.cells c3 t3)).alloc (.cells c4 t4)) (.cells c5 t5) _ (by simp; try omega)).trans (heap_alloc_at (((w.alloc (.cells c1 t1)).alloc (.cells c2 t2)).alloc (.cells c3 t3)) (.cells c4 t4) _ (by simp))))
  have H5 : (((((((w.alloc (.cells c1 t1)).alloc (.cells c2 t2)).alloc (.cells c3 t3)).alloc (.cells c4 t4)).alloc (.cells c5 t5)).alloc (.cells c6 t6)).alloc (.cells c7 t7)).heap[w.heap.size + 1 + 1 + 1 + 1]? = some (.cells c5 t5 (0, 0)) := (Below.heap_alloc ((((((w.alloc (.cells c1 t1)).alloc (.cells c2 t2)).alloc (.cells c3 t3)).alloc (.cells c4 t4)).alloc (.cells c5 t5)).alloc (.cells c6 t6)) (.cells c7 t7) _ (by simp; try omega)).trans ((Below.heap_alloc (((((w.alloc (.cells c1 t1)).alloc (.cells c2 t2)).alloc (.cells c3 t3)).alloc (.cells c4 t4)).alloc (.cells c5 t5)) (.cells c6 t6) _ (by simp; try omega)).trans (heap_alloc_at ((((w.alloc (.cells c1 t1)).alloc (.cells c2 t2)).alloc (.cells c3 t3)).alloc (.cells c4 t4)) (.cells c5 t5) _ (by simp)))
  have H6 : (((((((w.alloc (.cells c1 t1)).alloc (.cells c2 t2)).alloc (.cells c3 t3)).alloc (.cells c4 t4)).alloc (.cells c5 t5)).alloc (.cells c6 t6)).alloc (.cells c7 t7)).heap[w.heap.size + 1 + 1 + 1 + 1 + 1]? = some (.cells c6 t6 (0, 0)) := (Below.heap_alloc ((((((w.alloc (.cells c1 t1)).alloc (.cells c2 t2)).alloc (.cells c3 t3)).alloc (.cells c4 t4)).alloc (.cells c5 t5)).alloc (.cells c6 t6)) (.cells c7 t7) _ (by simp; try omega)).trans (heap_alloc_at (((((w.alloc (.cells c1 t1)).alloc (.cells c2 t2)).alloc (.cells c3 t3)).alloc (.cells c4 t4)).alloc (.cells c5 t5)) (.cells c6 t6) _ (by simp))
  have H7 : (((((((w.alloc (.cells c1 t1)).alloc (.cells c2 t2)).alloc (.cells c3 t3)).alloc (.cells c4 t4)).alloc (.cells c5 t5)).alloc (.cells c6 t6)).alloc (.cells c7 t7)).heap[w.heap.size + 1 + 1 + 1 + 1 + 1 + 1]? = some (.cells c7 t7 (0, 0)) := heap_alloc_at ((((((w.alloc (.cells c1 t1)).alloc (.cells c2 t2)).alloc (.cells c3 t3)).alloc (.cells c4 t4)).alloc (.cells c5 t5)).alloc (.cells c6 t6)) (.cells c7 t7) _ (by simp)
  exact ⟨(bl_alloc (bl_alloc (bl_alloc (bl_alloc (bl_alloc (bl_alloc (bl_alloc (Below.refl _ _) _) _) _) _) _) _) _), H1, H2, H3, H4, H5, H6, H7, (fun j => cell_of_row _ _ j _ _ _ H1), (fun j => cell_of_row _ _ j _ _ _ H2), (fun j => cell_of_row _ _ j _ _ _ H3), (fun j => cell_of_row _ _ j _ _ _ H4), (fun j => cell_of_row _ _ j _ _ _ H5), (fun j => cell_of_row _ _ j _ _ _ H6), (fun j => cell_of_row _ _ j _ _ _ H7), (frozen_row H1), (frozen_row H2), (frozen_row H3), (frozen_row H4), (frozen_row H5), (frozen_row H6), (frozen_row H7), (by simp; try omega), (by simp; try omega), (by simp; try omega), (by simp; try omega), (by simp; try omega), (by simp; try omega), (by simp; try omega), (by omega), (by omega), (by omega), (by omega), (by omega), (by omega), (by omega), (by simp; try omega), (by simp; try omega), (by simp; try omega), (by simp; try omega), (by simp; try omega), (by simp; try omega), (by simp; try omega), (by simp; try omega), (by simp; try omega), (by simp; try omega), (by simp; try omega), (by simp; try omega), (by simp; try omega), (by simp; try omega), (by simp; try omega), (by simp; try omega), (by simp; try omega), (by simp; try omega), (by simp; try omega), (by simp; try omega), (by simp; try omega), (by simp; try omega), (by simp; try omega), (by simp; try omega), (by simp; try omega), (by simp; try omega), (by simp; try omega), (by simp; try omega), (by simp; try omega), (by simp; try omega), (by simp; try omega), (by simp; try omega), (by simp; try omega), (by simp; try omega), (by simp; try omega), (by simp; try omega), (by simp; try omega), (by simp; try omega), (by simp; try omega), (by simp; try omega), (by simp; try omega), (by simp; try omega)⟩

theorem setRow_heap {w : World} {g : Nat} {old cs : Array Value} {t : TypeId} (h : w.heap[g]? = some (.cells old t (0, 0))) : (w.setRow g cs).heap[g]? = some (.cells cs t (0, 0)) := by
  simp [World.setRow, Array.getElem?_modify, h]
theorem bl_setRow {w W : World} (h : Below w.heap.size w W) {g : Nat} (hg : w.heap.size ≤ g) (cs : Array Value) : Below w.heap.size w (W.setRow g cs) :=
  ⟨h.os, h.tape, h.output, by simpa [World.setRow] using h.size, fun k hk => by
    have : (W.setRow g cs).heap[k]? = W.heap[k]? := by simp [World.setRow, Array.getElem?_modify]; intro e; omega
    rw [this]; exact h.block k hk⟩
theorem st_gate {P : Program} {ops : Array Oper} {rest : List Oper} {o : Oper} {a : Act} {w : World} {Q : Exit → Act → World → Prop} (ty : TypeId) {x y : Operand} (_ : o.op = .store ty x y)
    (h : wpList P ops Q (o :: rest) a w) : wpList P ops Q (o :: rest) a w := h
theorem ld_gate {P : Program} {ops : Array Oper} {rest : List Oper} {o : Oper} {a : Act} {w : World} {Q : Exit → Act → World → Prop} (ty : TypeId) {x : Operand} (_ : o.op = .load ty x)
    (h : wpList P ops Q (o :: rest) a w) : wpList P ops Q (o :: rest) a w := h
/-- a world in which block g alone has been written -/
structure Wrote (w w' : World) (g : Nat) : Prop where
  os : w'.os = w.os
  tape : w'.tape = w.tape
  output : w'.output = w.output
  size : w'.heap.size = w.heap.size
  block : ∀ k, k ≠ g → w'.heap[k]? = w.heap[k]?
theorem Wrote.cell {w w' : World} {g b : Nat} (h : Wrote w w' g) (hb : b ≠ g) (o : Nat) : w'.cell? ⟨b, o, none⟩ = w.cell? ⟨b, o, none⟩ := World.cell?_of_block (w := w) (a := ⟨b, o, none⟩) (h.block b hb)
theorem Wrote.frozen {w w' : World} {g b : Nat} (h : Wrote w w' g) (hb : b ≠ g) (o : Nat) : w'.frozen? ⟨b, o, none⟩ = w.frozen? ⟨b, o, none⟩ := World.frozen?_of_block (w := w) (a := ⟨b, o, none⟩) (h.block b hb)
theorem Wrote.below {w0 w w' : World} {g : Nat} (h : Wrote w w' g) (hB : Below w0.heap.size w0 w) (hg : w0.heap.size ≤ g) : Below w0.heap.size w0 w' :=
  ⟨h.os.trans hB.os, h.tape.trans hB.tape, h.output.trans hB.output, by rw [h.size]; exact hB.size, fun k hk => (h.block k (by omega)).trans (hB.block k hk)⟩
theorem Wrote.trans {w w1 w2 : World} {g : Nat} (h : Wrote w w1 g) (k : Wrote w1 w2 g) : Wrote w w2 g :=
  ⟨k.os.trans h.os, k.tape.trans h.tape, k.output.trans h.output, k.size.trans h.size, fun b hb => (k.block b hb).trans (h.block b hb)⟩
theorem Wrote.refl (w : World) (g : Nat) : Wrote w w g := ⟨rfl, rfl, rfl, rfl, fun _ _ => rfl⟩
theorem wrote_setRow (w : World) (g : Nat) (cs : Array Value) : Wrote w (w.setRow g cs) g :=
  ⟨rfl, rfl, rfl, by simp [World.setRow], fun k hk => by simp [World.setRow, Array.getElem?_modify]; intro e; omega⟩
theorem run_store_blk {P : Program} {w : World} {g off : Nat} {t ty : TypeId} {cur : Array Value} (u : Value) (vs : List Value) (hg : w.heap[g]? = some (.cells cur t (0, 0))) (hu : u.cells.toList = vs) (hi : (P.info? ty).map (·.size) = some vs.length)
    (hl : off + vs.length ≤ cur.size) (h1 : ∀ v ∈ vs, v.oneCell' = true) :
    (Instr.storeAt ty (.pointer (some ⟨g, off, none⟩)) u).run P w = .ok () (w.setRow g (cur.toList.take off ++ vs ++ cur.toList.drop (off + vs.length)).toArray) := by
  obtain ⟨i, hq, hsz⟩ := Option.map_eq_some_iff.1 hi
  have hc : u.cells.size = i.size := by rw [hsz, ← hu, Array.length_toList]
  have hst := run_storeCells_at (P := P) g off t vs 0 cur w hg (by omega) h1
  simp only [Nat.add_zero] at hst
  simp [Instr.storeAt, Instr.sureAddr, storeVar, sizeOf, typeInfo, hq, hc, hu, hst]
theorem wp_store_blk {P : Program} {o : Oper} {a : Act} {w : World} {K : Act → World → Prop} {Q : Exit → Act → World → Prop} (ty : TypeId) (x y : Operand) (ho : o.op = .store ty x y) (g off : Nat) (vs : List Value) (hx : a.eval x = .pointer (some ⟨g, off, none⟩))
    (hy : (a.eval y).cells.toList = vs) (t : TypeId) (cur cur' : Array Value) (hg : w.heap[g]? = some (.cells cur t (0, 0))) (hi : (P.info? ty).map (·.size) = some vs.length) (hl : off + vs.length ≤ cur.size) (h1 : ∀ v ∈ vs, v.oneCell' = true)
    (hc : (cur.toList.take off ++ vs ++ cur.toList.drop (off + vs.length)).toArray = cur')
    (h : ∀ w', w'.heap[g]? = some (.cells cur' t (0, 0)) → Wrote w w' g → K (a.put o.dst undef) w') : o.wp P a w K Q := by
  have hr := run_store_blk (P := P) (ty := ty) (a.eval y) vs hg hy hi hl h1
  unfold Oper.wp execOp
  simp only [ho, hx, Sem.run_bind, hr, Result.andThen_ok]
  rw [hc]
  exact h _ (setRow_heap hg) (wrote_setRow _ _ _)
/-- a store into a block that is known: in a region that draws -/
theorem step_store_blk {P : Program} {ops : Array Oper} {o : Oper} {a : Act} {w : World} {K : Act → World → Prop} {Q : Exit → Act → World → Prop} {E : Prop} (hgd : o.guard = none) (ty : TypeId) (x y : Operand) (ho : o.op = .store ty x y) (g off : Nat) (vs : List Value) (hx : a.eval x = .pointer (some ⟨g, off, none⟩))
    (hy : (a.eval y).cells.toList = vs) (t : TypeId) (cur cur' : Array Value) (hg : w.heap[g]? = some (.cells cur t (0, 0))) (hi : (P.info? ty).map (·.size) = some vs.length) (hl : off + vs.length ≤ cur.size) (h1 : ∀ v ∈ vs, v.oneCell' = true)
    (hc : (cur.toList.take off ++ vs ++ cur.toList.drop (off + vs.length)).toArray = cur')
    (h : ∀ w', w'.heap[g]? = some (.cells cur' t (0, 0)) → Wrote w w' g → K (a.put o.dst undef) w') : if Region.wanted o (yielded ops a.tmps) = true then Oper.wp P o a w K Q else E := by
  rw [if_pos (by simp [Region.wanted, hgd])]
  exact wp_store_blk ty x y ho g off vs hx hy t cur cur' hg hi hl h1 hc h
/-- a store into a block that is known: in a list of operations -/
theorem wpList_store_blk {P : Program} {ops : Array Oper} {rest : List Oper} {o : Oper} {a : Act} {w : World} {Q : Exit → Act → World → Prop} (hgd : o.guard = none) (ty : TypeId) (x y : Operand) (ho : o.op = .store ty x y) (g off : Nat) (vs : List Value) (hx : a.eval x = .pointer (some ⟨g, off, none⟩))
    (hy : (a.eval y).cells.toList = vs) (t : TypeId) (cur cur' : Array Value) (hg : w.heap[g]? = some (.cells cur t (0, 0))) (hi : (P.info? ty).map (·.size) = some vs.length) (hl : off + vs.length ≤ cur.size) (h1 : ∀ v ∈ vs, v.oneCell' = true)
    (hc : (cur.toList.take off ++ vs ++ cur.toList.drop (off + vs.length)).toArray = cur')
    (h : ∀ w', w'.heap[g]? = some (.cells cur' t (0, 0)) → Wrote w w' g → wpList P ops Q rest (a.put o.dst undef) w') : wpList P ops Q (o :: rest) a w :=
  wpList_plain hgd fun K hK => wp_store_blk ty x y ho g off vs hx hy t cur cur' hg hi hl h1 hc fun w' a b => hK _ _ (h w' a b)
theorem st_gate3 {P : Program} {ops : Array Oper} {o : Oper} {a : Act} {w : World} {K : Act → World → Prop} {Q : Exit → Act → World → Prop} {E : Prop} {ty : TypeId} {x y : Operand} (_ : o.op = .store ty x y)
    (h : if Region.wanted o (yielded ops a.tmps) = true then Oper.wp P o a w K Q else E) : if Region.wanted o (yielded ops a.tmps) = true then Oper.wp P o a w K Q else E := h
theorem st_gate2 {P : Program} {ops : Array Oper} {o : Oper} {a : Act} {w : World} {K : Act → World → Prop} {Q : Exit → Act → World → Prop} {E : Prop} (p : Tmp) {ty : TypeId} {y : Operand} (_ : o.op = .store ty (.tmp p) y)
    (h : if Region.wanted o (yielded ops a.tmps) = true then Oper.wp P o a w K Q else E) : if Region.wanted o (yielded ops a.tmps) = true then Oper.wp P o a w K Q else E := h

/-- a struct that lies in the result's block -/
theorem ret_row {P : Program} {fn : Func} {R : Ending → World → Prop} {a : Act} {w : World} {p : Tmp} {ty : TypeId} (h : fn.results = #[.cell p ty]) (g : Nat) (t : TypeId) (cs : Array Value) (d : TypeDesc)
    (hp : a.tmps.getD p undef = .pointer (some ⟨g, 0, none⟩)) (hg : w.heap[g]? = some (.cells cs t (0, 0))) (hu : P.underlying ty = some d) (hd : (match d with | .struct _ | .array _ _ => true | _ => false) = true) (hi : (P.info? ty).map (·.size) = some cs.size)
    (hdf : a.defers = []) (hR : R (.returned (.agg cs)) w) : bodyPost P fn R .ret a w :=
  bodyPost_ret (results_cell_row h _ _ g t cs (0, 0) d hp hg hu hd hi) hdf hR
theorem ret_int {a b : Int} (h : a = b) : Ending.returned (.int .i64 a) = .returned (.int .i64 b) := by rw [h]
theorem ret_bool {a b : Bool} (h : a = b) : Ending.returned (.bool a) = .returned (.bool b) := by rw [h]
/-- at an append alone -/
theorem app_gate {P : Program} {ops : Array Oper} {o : Oper} {a : Act} {w : World} {K : Act → World → Prop} {Q : Exit → Act → World → Prop} {E : Prop} (t : TypeId) {s x : Operand} (_ : o.op = .call { callee := .builtin .append, args := #[s, x], argTypes := #[t, t] })
    (h : if Region.wanted o (yielded ops a.tmps) = true then Oper.wp P o a w K Q else E) : if Region.wanted o (yielded ops a.tmps) = true then Oper.wp P o a w K Q else E := h
theorem own_below {w w1 : World} {base : Nat} {e : TypeId} {size n : Nat} {v : Value} {xs : List Value} (h : w.ownsRow base e size v n xs) (hb : Below w.heap.size w w1) : w1.ownsRow base e size v n xs :=
  h.kept (row := none) ⟨hb.os, hb.tape, hb.output, hb.size, fun i hi _ => hb.block i hi⟩ (by cases v.ownBlock <;> simp)
theorem own_below_d {w w1 : World} {base : Nat} {e : TypeId} {size n : Nat} {v : Value} {xs : List Value} (h : w.ownsRow base e size v n xs) (hb : Below w.drew.heap.size w.drew w1) : w1.ownsRow base e size v n xs := own_below (w := w.drew) h.drew hb
theorem own_weaken {w : World} {base base' : Nat} {e : TypeId} {size n : Nat} {v : Value} {xs : List Value} (h : w.ownsRow base e size v n xs) (hb : base' ≤ base) : w.ownsRow base' e size v n xs := by
  obtain ⟨h1, h2 | ⟨g, cap, cur, h3, h4, h5⟩⟩ := h
  · exact ⟨h1, .inl h2⟩
  · exact ⟨h1, .inr ⟨g, cap, cur, h3, Nat.le_trans hb h4, h5⟩⟩
theorem own_nil (W : World) (base : Nat) (e : TypeId) (size : Nat) : W.ownsRow base e size (.slice none 0 0) 0 [] := ⟨by simp, .inl ⟨rfl, rfl⟩⟩
theorem bl_grown {B : Nat} {w w1 w2 : World} {row : Option Nat} (h : Below B w w1) (hB : B ≤ w1.heap.size) (hg : w1.grownBy w2 row) (hr : ∀ k, row = some k → B ≤ k) : Below B w w2 := h.grown hg hB hr
/-- a list of things, each so many cells -/
def flat {α : Type} (enc : α → List Value) (l : List α) : List Value := (l.map enc).flatten
theorem flat_snoc {α : Type} (enc : α → List Value) (l : List α) (x : α) : flat enc (l ++ [x]) = flat enc l ++ enc x := by simp [flat]

end Go.Proofs.Ytnclljamcfoolaa
namespace Go.Proofs.Ytnclljamcfoolaa
open Go.RowKit

structure Rg where
  mn : Int
  mx : Int
deriving DecidableEq
def Rg.cs (x : Rg) : List Value := [.int .i64 x.mn, .int .i64 x.mx]
structure Rd where
  kind : Int
  a : Int
  b : Int
  secs : Int
  shown : Rg
deriving DecidableEq
def Rd.cs (r : Rd) : List Value := [.int .i64 r.kind, .int .i64 r.a, .int .i64 r.b, .int .i64 r.secs, .int .i64 r.shown.mn, .int .i64 r.shown.mx]
structure Snd where
  tone : Rg
  slope : Rg
deriving DecidableEq
def Snd.cs (s : Snd) : List Value := [.int .i64 s.tone.mn, .int .i64 s.tone.mx, .int .i64 s.slope.mn, .int .i64 s.slope.mx]

/-- a row of things that lies in memory: n of them from A on -/
def Row {α : Type} (enc : α → List Value) (sz : Nat) (W : World) (A : Option Addr) (xs : List α) : Prop :=
  xs = [] ∨ ∃ b o, A = some ⟨b, o, none⟩ ∧ ∀ i x, xs[i]? = some x → ∀ j v, (enc x)[j]? = some v → W.cell? ⟨b, o + i * sz + j, none⟩ = some v
theorem Row.below {α : Type} {enc : α → List Value} {sz : Nat} {w W : World} {A : Option Addr} {xs : List α} (h : Row enc sz w A xs) (hb : Below w.heap.size w W) : Row enc sz W A xs := by
  rcases h with h | ⟨b, o, hA, h⟩
  · exact .inl h
  · refine .inr ⟨b, o, hA, fun i x hx j v hv => ?_⟩
    have hc := h i x hx j v hv
    exact (hb.cell (p := ⟨b, _, none⟩) (World.block_lt_of_cell? w _ hc)).trans hc
theorem Row.cell {α : Type} {enc : α → List Value} {sz : Nat} {w : World} {A : Option Addr} {xs : List α} (h : Row enc sz w A xs) (k : Nat) (hk : k < xs.length) :
    ∃ b o, A = some ⟨b, o, none⟩ ∧ ∀ j v, (enc xs[k])[j]? = some v → w.cell? ⟨b, o + k * sz + j, none⟩ = some v := by
  rcases h with h | ⟨b, o, hA, h⟩
  · subst h; simp at hk
  · exact ⟨b, o, hA, h k xs[k] (List.getElem?_eq_getElem hk)⟩
theorem Row.rg {w : World} {A : Option Addr} {xs : List Rg} (h : Row Rg.cs 2 w A xs) (k : Nat) (hk : k < xs.length) : ∃ b o, A = some ⟨b, o, none⟩ ∧ b < w.heap.size ∧ w.cell? ⟨b, o + k * 2, none⟩ = some (.int .i64 xs[k].mn) ∧ w.cell? ⟨b, o + k * 2 + 1, none⟩ = some (.int .i64 xs[k].mx) := by
  obtain ⟨b, o, hA, h⟩ := h.cell k hk
  exact ⟨b, o, hA, World.block_lt_of_cell? w _ (h 0 _ rfl), h 0 _ rfl, h 1 _ rfl⟩
theorem Row.rd {w : World} {A : Option Addr} {xs : List Rd} (h : Row Rd.cs 6 w A xs) (k : Nat) (hk : k < xs.length) : ∃ b o, A = some ⟨b, o, none⟩ ∧ b < w.heap.size ∧ w.cell? ⟨b, o + k * 6, none⟩ = some (.int .i64 xs[k].kind) ∧ w.cell? ⟨b, o + k * 6 + 1, none⟩ = some (.int .i64 xs[k].a) ∧ w.cell? ⟨b, o + k * 6 + 2, none⟩ = some (.int .i64 xs[k].b) ∧
    w.cell? ⟨b, o + k * 6 + 3, none⟩ = some (.int .i64 xs[k].secs) ∧ w.cell? ⟨b, o + k * 6 + 4, none⟩ = some (.int .i64 xs[k].shown.mn) ∧ w.cell? ⟨b, o + k * 6 + 5, none⟩ = some (.int .i64 xs[k].shown.mx) := by
  obtain ⟨b, o, hA, h⟩ := h.cell k hk
  exact ⟨b, o, hA, World.block_lt_of_cell? w _ (h 0 _ rfl), h 0 _ rfl, h 1 _ rfl, h 2 _ rfl, h 3 _ rfl, h 4 _ rfl, h 5 _ rfl⟩
theorem Row.snd {w : World} {A : Option Addr} {xs : List Snd} (h : Row Snd.cs 4 w A xs) (k : Nat) (hk : k < xs.length) : ∃ b o, A = some ⟨b, o, none⟩ ∧ b < w.heap.size ∧ w.cell? ⟨b, o + k * 4, none⟩ = some (.int .i64 xs[k].tone.mn) ∧ w.cell? ⟨b, o + k * 4 + 1, none⟩ = some (.int .i64 xs[k].tone.mx) ∧ w.cell? ⟨b, o + k * 4 + 2, none⟩ = some (.int .i64 xs[k].slope.mn) ∧
    w.cell? ⟨b, o + k * 4 + 3, none⟩ = some (.int .i64 xs[k].slope.mx) := by
  obtain ⟨b, o, hA, h⟩ := h.cell k hk
  exact ⟨b, o, hA, World.block_lt_of_cell? w _ (h 0 _ rfl), h 0 _ rfl, h 1 _ rfl, h 2 _ rfl, h 3 _ rfl⟩

def inB (n lo hi : Int) : Bool := decide (lo ≤ n) && decide (n ≤ hi)
theorem inB_true {n lo hi : Int} : inB n lo hi = true ↔ lo ≤ n ∧ n ≤ hi := by simp [inB]
theorem inB_false {n lo hi : Int} : inB n lo hi = false ↔ ¬ (lo ≤ n ∧ n ≤ hi) := by rw [← inB_true]; simp

/-- the first error of some things -/
def firstErr {α : Type} (f : α → Int) : List α → Int
  | [] => 0
  | x :: xs => if f x = 0 then firstErr f xs else f x
theorem firstErr_drop {α : Type} (f : α → Int) (xs : List α) (k : Nat) (x : α) (hk : xs[k]? = some x) : firstErr f (xs.drop k) = if f x = 0 then firstErr f (xs.drop (k + 1)) else f x := by
  have hlt : k < xs.length := by
    rcases Nat.lt_or_ge k xs.length with h | h
    · exact h
    · rw [List.getElem?_eq_none h] at hk; cases hk
  rw [List.drop_eq_getElem_cons hlt]
  have : xs[k] = x := by rw [List.getElem?_eq_getElem hlt] at hk; exact Option.some.inj hk
  rw [this]; rfl
theorem firstErr_at {α : Type} (f : α → Int) (xs : List α) (k : Nat) (hk : k < xs.length) : firstErr f (xs.drop k) = if f xs[k] = 0 then firstErr f (xs.drop (k + 1)) else f xs[k] :=
  firstErr_drop f xs k xs[k] (List.getElem?_eq_getElem hk)
theorem firstErr_zero {α : Type} (f : α → Int) (xs : List α) : firstErr f xs = 0 ↔ ∀ x ∈ xs, f x = 0 := by
  induction xs with
  | nil => simp [firstErr]
  | cons x xs ih =>
    simp only [firstErr, List.mem_cons, forall_eq_or_imp]
    by_cases h : f x = 0 <;> simp [h, ih]

def rgErr (x : Rg) (lo hi : Int) : Int := if inB x.mn lo hi = false then 1 else if inB x.mx lo hi = false then 1 else if x.mx < x.mn then 5 else 0

theorem rgErr_zero {x : Rg} {lo hi : Int} (h : rgErr x lo hi = 0) : lo ≤ x.mn ∧ x.mn ≤ hi ∧ lo ≤ x.mx ∧ x.mx ≤ hi ∧ x.mn ≤ x.mx := by
  unfold rgErr at h
  (repeat' split at h) <;> simp_all [inB_true]
/-- layer 2 -/
def readErr (r : Rd) (n : Int) : Int :=
  if inB r.kind 1 3 = false then 8 else if inB r.a 0 (n - 1) = false then 3
  else if r.kind = 1 ∧ r.b ≠ 0 then 1 else if r.kind ≠ 1 ∧ inB r.b 0 (n - 1) = false then 3
  else if r.kind ≠ 1 ∧ r.b = r.a then 4
  else if inB r.secs (if r.kind = 3 then 0 else 1) (if r.kind = 3 then 0 else 20) = false then 1
  else if inB r.shown.mn 0 (if r.kind = 3 then 0 else 25000) = false then 1
  else if inB r.shown.mx 0 (if r.kind = 3 then 0 else 25000) = false then 1
  else if r.shown.mx < r.shown.mn then 5 else 0
def toneErr (x : Rg) : Int :=
  if inB x.mn 1 100000 = false then 1 else if inB x.mx 1 100000 = false then 1 else if x.mx < x.mn then 5 else if 20 < x.mx - x.mn then 1 else 0
structure Ear where
  slack : Int
  tones : List Rg
  reads : List Rd
def earErr (e : Ear) : Int :=
  if inB e.slack 0 3 = false then 1 else if (e.tones.length : Int) = 0 then 7 else if 3 < (e.tones.length : Int) then 6
  else if firstErr toneErr e.tones ≠ 0 then firstErr toneErr e.tones
  else if 6 < (e.reads.length : Int) then 6 else firstErr (fun r => readErr r e.tones.length) e.reads
theorem firstErr_is {α : Type} {f : α → Int} {xs : List α} {k : Nat} {hk : k < xs.length} {c : Int} (hf : firstErr f xs = firstErr f (xs.drop k)) (h : f xs[k] = c) (hc : c ≠ 0) : firstErr f xs = c := by
  rw [hf, firstErr_at f xs k hk, if_neg (by rw [h]; exact hc), h]
theorem firstErr_next {α : Type} {f : α → Int} {xs : List α} {k : Nat} {hk : k < xs.length} (hf : firstErr f xs = firstErr f (xs.drop k)) (h : f xs[k] = 0) : firstErr f xs = firstErr f (xs.drop (k + 1)) := by
  rw [hf, firstErr_at f xs k hk, if_pos h]
theorem firstErr_end {α : Type} {f : α → Int} {xs : List α} {k : Nat} (hf : firstErr f xs = firstErr f (xs.drop k)) (hk : xs.length ≤ k) : firstErr f xs = 0 := by
  rw [hf, List.drop_of_length_le hk]; rfl
theorem earErr_tone {e : Ear} {c : Int} (h : inB e.slack 0 3 = true ∧ e.tones.length ≠ 0 ∧ e.tones.length ≤ 3) (hf : firstErr toneErr e.tones = c) (hc : c ≠ 0) : earErr e = c := by
  unfold earErr; rw [if_neg (by simp [h.1]), if_neg (by omega), if_neg (by omega), if_pos (by rw [hf]; exact hc), hf]
theorem earErr_many {e : Ear} (h : inB e.slack 0 3 = true ∧ e.tones.length ≠ 0 ∧ e.tones.length ≤ 3) (hf : firstErr toneErr e.tones = 0) (h6 : 6 < (e.reads.length : Int)) : earErr e = 6 := by
  unfold earErr; rw [if_neg (by simp [h.1]), if_neg (by omega), if_neg (by omega), if_neg (by simp [hf]), if_pos h6]
theorem earErr_reads {e : Ear} {c : Int} (h : inB e.slack 0 3 = true ∧ e.tones.length ≠ 0 ∧ e.tones.length ≤ 3) (hf : firstErr toneErr e.tones = 0) (h6 : (e.reads.length : Int) ≤ 6) (hr : firstErr (fun r => readErr r e.tones.length) e.reads = c) : earErr e = c := by
  unfold earErr; rw [if_neg (by simp [h.1]), if_neg (by omega), if_neg (by omega), if_neg (by simp [hf]), if_neg (by omega), hr]
theorem toneErr_rg (x : Rg) : toneErr x = if rgErr x 1 100000 ≠ 0 then rgErr x 1 100000 else if 20 < x.mx - x.mn then 1 else 0 := by
  unfold toneErr rgErr
  (repeat' split) <;> simp_all


/-- layers 1 and 5 -/
def orE (a b : Int) : Int := if a = 0 then b else a
structure Tng where
  pitch : Rg
  tip : Rg
  root : Rg
deriving DecidableEq
structure Fil where
  up : Rg
  down : Rg
  tipw : Rg
  rootw : Rg
  least : Int
deriving DecidableEq
structure Job where
  t : Tng
  f : Fil
  shifts : List Rg
  within : Int
  meter : Int
structure Law where
  first : Int
  step : Int
  span : Int
  press : Int
deriving DecidableEq
structure Box where
  law : Law
  note : Int
  lows : List Snd
  highs : List Snd
  tip : Rg
  root : Rg
  f : Fil
  meter : Int
@[reducible] def Job.v (j : Job) (A : Option Addr) (c : Nat) : Value := .agg #[.int .i64 j.t.pitch.mn, .int .i64 j.t.pitch.mx, .int .i64 j.t.tip.mn, .int .i64 j.t.tip.mx, .int .i64 j.t.root.mn, .int .i64 j.t.root.mx, .int .i64 j.f.up.mn, .int .i64 j.f.up.mx, .int .i64 j.f.down.mn, .int .i64 j.f.down.mx,
  .int .i64 j.f.tipw.mn, .int .i64 j.f.tipw.mx, .int .i64 j.f.rootw.mn, .int .i64 j.f.rootw.mx, .int .i64 j.f.least, .slice A j.shifts.length c, .int .i64 j.within, .int .i64 j.meter]
@[reducible] def Box.v (b : Box) (A1 : Option Addr) (c1 : Nat) (A2 : Option Addr) (c2 : Nat) : Value := .agg #[.int .i64 b.law.first, .int .i64 b.law.step, .int .i64 b.law.span, .int .i64 b.law.press, .int .i64 b.note, .slice A1 b.lows.length c1, .slice A2 b.highs.length c2,
  .int .i64 b.tip.mn, .int .i64 b.tip.mx, .int .i64 b.root.mn, .int .i64 b.root.mx, .int .i64 b.f.up.mn, .int .i64 b.f.up.mx, .int .i64 b.f.down.mn, .int .i64 b.f.down.mx, .int .i64 b.f.tipw.mn, .int .i64 b.f.tipw.mx, .int .i64 b.f.rootw.mn, .int .i64 b.f.rootw.mx, .int .i64 b.f.least, .int .i64 b.meter]
def allErr (xs : List Rg) (lo hi : Int) : Int := firstErr (fun x => rgErr x lo hi) xs
def jobErr (j : Job) : Int :=
  orE (rgErr j.t.pitch (-60) 60) (orE (allErr [j.t.tip, j.t.root] 0 100) (orE (allErr [j.f.up, j.f.down, j.f.tipw, j.f.rootw] 0 12) (
  if inB j.f.least 0 100 = false then 1 else if 4 < (j.shifts.length : Int) then 6 else orE (allErr j.shifts (-60) 60) (
  if inB j.within 0 60 = false then 1 else if inB j.meter 0 6 = false then 1 else 0))))
def lawErr (l : Law) : Int := if inB l.first 0 30 = false then 1 else if inB l.step (-5) 5 = false then 1 else if inB l.span 0 20 = false then 1 else if inB l.press 0 3 = false then 1 else 0
def sndErr (s : Snd) : Int := orE (rgErr s.tone (-30) 30) (rgErr s.slope (-3) 3)
def sndsErr (l : List Snd) (most : Int) : Int := if most < (l.length : Int) then 6 else firstErr sndErr l
def blankOf (b : Box) : Job := ⟨⟨⟨0, 0⟩, b.tip, b.root⟩, b.f, [], b.law.span, b.meter⟩
def boxErr (b : Box) : Int :=
  orE (lawErr b.law) (if inB b.note 0 11 = false then 1 else if inB (b.law.first + b.law.step * b.note) 0 30 = false then 1 else
  orE (sndsErr b.lows 4) (orE (sndsErr b.highs 5) (jobErr (blankOf b))))
theorem lawErr_zero {l : Law} (h : lawErr l = 0) : 0 ≤ l.first ∧ l.first ≤ 30 ∧ -5 ≤ l.step ∧ l.step ≤ 5 ∧ 0 ≤ l.span ∧ l.span ≤ 20 ∧ 0 ≤ l.press ∧ l.press ≤ 3 := by
  unfold lawErr at h
  (repeat' split at h) <;> simp_all [inB_true]
theorem due_wrap {b : Box} : lawErr b.law = 0 → inB b.note 0 11 = true → wrap64 (b.law.first + wrap64 (b.law.step * b.note)) = b.law.first + b.law.step * b.note := by
  intro h1 h2
  have h := lawErr_zero h1
  rw [inB_true] at h2
  have a1 := Int.mul_le_mul_of_nonneg_right (c := b.note) (a := -5) (b := b.law.step) h.2.2.1 h2.1
  have a2 := Int.mul_le_mul_of_nonneg_right (c := b.note) (a := b.law.step) (b := 5) h.2.2.2.1 h2.1
  generalize b.law.step * b.note = m at *
  unfold wrap64; omega
theorem heap_new (w : World) (o : Obj) : (w.alloc o).heap[w.heap.size]? = some o := heap_alloc_new w o
theorem row_new2 (w : World) (x y : Rg) : Row Rg.cs 2 (w.alloc (.cells #[.int .i64 x.mn, .int .i64 x.mx, .int .i64 y.mn, .int .i64 y.mx] 26)) (some ⟨w.heap.size, 0, none⟩) [x, y] := by
  refine .inr ⟨_, _, rfl, fun i z hz j v hv => ?_⟩
  rw [cell_of_row _ _ _ _ _ _ (heap_new w _)]
  match i with
  | 0 => obtain rfl : x = z := by simpa using hz
         match j with
         | 0 => simpa [Rg.cs] using hv
         | 1 => simpa [Rg.cs] using hv
         | j + 2 => simp [Rg.cs] at hv
  | 1 => obtain rfl : y = z := by simpa using hz
         match j with
         | 0 => simpa [Rg.cs] using hv
         | 1 => simpa [Rg.cs] using hv
         | j + 2 => simp [Rg.cs] at hv
  | i + 2 => simp at hz
theorem row_new4 (w : World) (x y z u : Rg) : Row Rg.cs 2 (w.alloc (.cells #[.int .i64 x.mn, .int .i64 x.mx, .int .i64 y.mn, .int .i64 y.mx, .int .i64 z.mn, .int .i64 z.mx, .int .i64 u.mn, .int .i64 u.mx] 26)) (some ⟨w.heap.size, 0, none⟩) [x, y, z, u] := by
  refine .inr ⟨_, _, rfl, fun i q hq j v hv => ?_⟩
  rw [cell_of_row _ _ _ _ _ _ (heap_new w _)]
  have hj : j < 2 := by
    rcases Nat.lt_or_ge j 2 with h | h
    · exact h
    · rw [List.getElem?_eq_none (by simpa [Rg.cs] using h)] at hv; cases hv
  have hi : i < 4 := by
    rcases Nat.lt_or_ge i 4 with h | h
    · exact h
    · rw [List.getElem?_eq_none (by simpa using h)] at hq; cases hq
  obtain rfl | rfl | rfl | rfl : i = 0 ∨ i = 1 ∨ i = 2 ∨ i = 3 := by omega
  all_goals
    simp only [List.getElem?_cons_zero, List.getElem?_cons_succ, Option.some.injEq] at hq
    subst hq
    obtain rfl | rfl : j = 0 ∨ j = 1 := by omega
    all_goals simpa [Rg.cs] using hv

end Go.Proofs.Ytnclljamcfoolaa
