/- How the given data are opened: structs of whole numbers, and slices of them. -/
import Derived.Test.YtnclljamcfoolaaTypes
import Derived.Deep.Slices
import Derived.SizedLaws
namespace Go.Proofs.Ytnclljamcfoolaa
open Go.ChangeShapes Go.WideShapes Go.RowKit Go.Deep
set_option linter.unusedVariables false

/-- a type that is whole numbers all through -/
def intsB (P : Program) : Nat → TypeId → Bool
  | 0, _ => false
  | n + 1, t => match P.underlying t with
    | some (.int .i64) => true
    | some (.struct fs) => (fs.toList.all fun f => intsB P n f.type) && (List.range (P.cellsOf t)).all fun c => fs.toList.any fun f => decide (f.offset ≤ c) && decide (c < f.offset + P.cellsOf f.type)
    | _ => false
def wf64 (v : Value) : Prop := ∃ i, v = .int .i64 i ∧ (Lit.int .i64 i).wf = true

section
variable {H : Type} {enc : TypeId × Value → H} {P : Program} {w : World} {base : Nat} {spare : Nat → Bool} {held : Bool}

theorem ints_of : ∀ (n fuel : Nat) (t : TypeId) (cs : List Value) (x : DataW H × List MemPlace), intsB P n t = true → DataW.trod enc P w base spare held fuel t cs = some x → ∀ v ∈ cs, wf64 v
  | 0, _, _, _, _, hb, _ => by simp [intsB] at hb
  | n + 1, fuel, t, cs, x, hb, h => by
    unfold intsB at hb
    split at hb
    · rename_i ht
      obtain ⟨i, rfl, -, hw⟩ := DataW.trod_int ht h
      intro v hv
      exact ⟨i, by simpa using hv, hw⟩
    · rename_i fs ht
      obtain ⟨xs, m, -, -, hlen, hxl, hf⟩ := DataW.trod_struct ht h
      rw [Bool.and_eq_true, List.all_eq_true, List.all_eq_true] at hb
      intro v hv
      obtain ⟨c, hc, rfl⟩ := List.mem_iff_getElem.1 hv
      have h1 := hb.2 c (List.mem_range.2 (hlen ▸ hc))
      obtain ⟨f, hfm, hin⟩ := List.any_eq_true.1 h1
      simp only [Bool.and_eq_true, decide_eq_true_eq] at hin
      obtain ⟨i, hi, hfi⟩ := List.mem_iff_getElem.1 hfm
      have hi' : i < fs.size := by simpa using hi
      have h2 := hf i f (by rw [← hfi]; simp [hi'])
      have hix : i < xs.length := hxl ▸ hi'
      rw [List.getElem?_eq_getElem hix] at h2
      refine ints_of n m f.type _ _ (hb.1 f hfm) h2 _ ?_
      refine List.mem_iff_getElem.2 ⟨c - f.offset, by simp; omega, ?_⟩
      rw [List.getElem_take, List.getElem_drop]
      congr 1
      omega
    · exact absurd hb (by simp)

theorem ints_list {cs : List Value} (h : ∀ v ∈ cs, wf64 v) : ∃ l : List Int, cs = l.map (Value.int .i64) ∧ ∀ z ∈ l, (Lit.int .i64 z).wf = true := by
  induction cs with
  | nil => exact ⟨[], rfl, by simp⟩
  | cons v cs ih =>
    obtain ⟨l, hl, hw⟩ := ih fun u hu => h u (List.mem_cons_of_mem _ hu)
    obtain ⟨i, hi, hwi⟩ := h v List.mem_cons_self
    exact ⟨i :: l, by rw [hl, hi]; rfl, by simpa using ⟨hwi, hw⟩⟩

/-- a slice of structs of whole numbers is a row -/
theorem open_row {α : Type} (en : α → List Value) (de : List Int → α) (sz n : Nat) {t e : TypeId} {fuel : Nat} {cs : List Value} {x : DataW H × List MemPlace} (hd : ∀ l : List Int, l.length = sz → en (de l) = l.map (Value.int .i64)) (ht : P.underlying t = some (.slice e)) (hsz : P.cellsOf e = sz) (hsz0 : 0 < sz) (hi : intsB P n e = true)
    (h : DataW.trod enc P w base spare held fuel t cs = some x) :
    ∃ (A : Option Addr) (xs : List α) (cap : Nat), cs = [.slice A xs.length cap] ∧ Row en sz w A xs ∧ (xs = [] ∨ ∃ es sp, x.1 = .slice es sp ∧ es.length = xs.length) := by
  rcases open_slice ht h with ⟨rfl, -⟩ | ⟨a, len, cap, m, k, D, Pl, rfl, hb, hl, hm, hmm, rfl, hel⟩
  · exact ⟨none, [], 0, rfl, .inl rfl, .inl rfl⟩
  have hlm : len ≤ m := by rw [hmm]; split <;> omega
  have key : ∀ i, i < len → ∃ l : List Int, l.length = sz ∧ ∀ j, j < sz → w.cell? (a.add (i * sz + j)) = (l.map (Value.int .i64))[j]? := by
    intro i hil
    obtain ⟨cs', hc, ht'⟩ := hel i (by omega)
    obtain ⟨-, hcl, hat⟩ := World.cells?_some hc
    obtain ⟨l, rfl, -⟩ := ints_list (ints_of n k e cs' _ hi ht')
    rw [hsz] at hcl hat
    refine ⟨l, by simpa using hcl, fun j hj => ?_⟩
    rw [← Go.Deep.add_add]
    exact hat j hj
  obtain ⟨L, hL⟩ : ∃ L : Nat → List Int, ∀ i, i < len → (L i).length = sz ∧ ∀ j, j < sz → w.cell? (a.add (i * sz + j)) = ((L i).map (Value.int .i64))[j]? := by
    refine ⟨fun i => if hi : i < len then (key i hi).choose else [], fun i hi => ?_⟩
    simp only [dif_pos hi]
    exact (key i hi).choose_spec
  refine ⟨some a, (List.range len).map fun i => de (L i), cap, by simp, ?_, .inr ⟨_, _, rfl, by simp⟩⟩
  rcases Nat.eq_zero_or_pos len with h0 | h0
  · subst h0; exact .inl rfl
  obtain ⟨b, o, s⟩ := a
  obtain rfl : s = none := by
    obtain ⟨hl0, hc0⟩ := hL 0 h0
    have h1 := hc0 0 hsz0
    rw [List.getElem?_eq_getElem (by simpa [hl0] using hsz0)] at h1
    cases s with
    | none => rfl
    | some s =>
      unfold World.cell? Addr.add at h1
      simp only [Nat.zero_mul, Nat.add_zero, if_true, Option.isSome_some] at h1
      split at h1 <;> cases h1
  refine .inr ⟨b, o, rfl, ?_⟩
  intro i y hy j v hv
  have hi' : i < len := by
    rcases Nat.lt_or_ge i len with h | h
    · exact h
    · rw [List.getElem?_eq_none (by simpa using h)] at hy; cases hy
  obtain ⟨hl1, hc1⟩ := hL i hi'
  rw [List.getElem?_map, List.getElem?_range hi'] at hy
  obtain rfl : de (L i) = y := by simpa using hy
  rw [hd _ hl1] at hv
  have hj : j < sz := by
    rcases Nat.lt_or_ge j sz with h | h
    · exact h
    · rw [List.getElem?_eq_none (by simpa [hl1] using h)] at hv; cases hv
  have h1 := hc1 j hj
  rw [hv] at h1
  rw [← h1]
  congr 1
  unfold Addr.add
  split
  · rename_i hz; rw [Nat.add_assoc, hz]; rfl
  · simp [Nat.add_assoc]
end
end Go.Proofs.Ytnclljamcfoolaa
