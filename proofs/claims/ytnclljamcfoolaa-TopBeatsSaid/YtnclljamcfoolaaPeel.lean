/- A drawn region whose last operation waits for all others: the region with a still last operation, then that operation. -/
import Derived.Test.YtnclljamcfoolaaBeats2
namespace Go.Proofs.Ytnclljamcfoolaa
open Go.RowKit
set_option linter.unusedVariables false

section
variable {P : Program} {md : Region.Mode} {ops ops' : Array Oper} {Q : Exit → Act → World → Prop} {S : World → Prop}
/-- the post of the region without its last operation o -/
def Peeled (P : Program) (o : Oper) (Q : Exit → Act → World → Prop) : Exit → Act → World → Prop
  | .normal, a, w => o.wp P a w (fun a w => Q .normal a w) Q
  | e, a, w => Q e a w
theorem Peeled.out {o : Oper} : LetsOut (Peeled P o Q) → LetsOut Q := fun ⟨a, w, h⟩ => ⟨a, w, h⟩
theorem wp_peeled {o x : Oper} {a : Act} {w : World} {K K' : Act → World → Prop} (h : ∀ a w, K a w → K' a w) (hh : x.wp P a w K (Peeled P o Q)) : x.wp P a w K' Q := by
  unfold Oper.wp at *
  generalize (execOp a.eval x).run P w = r at *
  cases r with
  | ok n w' =>
    cases n <;> simp only [Oper.upon] at hh ⊢ <;>
      first
        | exact h _ _ hh
        | exact Calls.mono hh (fun e w'' he => by cases e <;> first | exact h _ _ he | exact he | exact Peeled.out he)
        | exact Rows.mono hh (fun _ _ he => h _ _ he)
  | halt x w' => cases x <;> simp only [Oper.upon] at hh ⊢ <;> first | exact hh | exact Peeled.out hh
theorem ready_same (h : ∀ i : Nat, (ops'[i]?).map Oper.after = (ops[i]?).map Oper.after) (hs : ops'.size = ops.size) (l : Array Bool) : Region.ready md ops' l = Region.ready md ops l := by
  unfold Region.ready
  rw [hs]
  refine List.filter_congr fun i _ => ?_
  have := h i
  cases h1 : ops'[i]? <;> cases h2 : ops[i]? <;> simp_all
theorem ready_some {n : Nat} (hsz : ops.size = n + 1) (hwf : ∀ (i : Nat) (x : Oper), ops[i]? = some x → ∀ e ∈ x.after, Region.binds md e = true → e.on < i) {l : Array Bool} (hl : l.size = n + 1) (hn : l.getD n true = false) : Region.ready md ops l ≠ [] := by
  intro h0
  have key : ∀ i, i < n + 1 → l.getD i false = true := by
    intro i
    induction i using Nat.strongRecOn with
    | _ i ih =>
      intro hi
      have hx : ∃ x, ops[i]? = some x := ⟨ops[i]'(by omega), Array.getElem?_eq_getElem (by omega)⟩
      obtain ⟨x, hx⟩ := hx
      have hr : i ∉ Region.ready md ops l := by rw [h0]; simp
      rw [mem_ready] at hr
      have hli : l.getD i true ≠ false := fun h => hr ⟨h, x, hx, fun e he hb => ih _ (hwf i x hx e he hb) (by have := hwf i x hx e he hb; omega)⟩
      have hlt : i < l.size := by omega
      simp [Array.getD, hlt] at hli ⊢
      exact hli
  have hlt : n < l.size := by omega
  have := key n (by omega)
  simp [Array.getD, hlt] at this hn
  rw [this] at hn; cases hn
theorem ready_none {n : Nat} {o : Oper} (hsz : ops.size = n + 1) (ho : ops[n]? = some o) (hw : ∀ i, i < n → ∃ e ∈ o.after, Region.binds md e = true ∧ e.on = i) {l : Array Bool} (hl : l.size = n + 1) (hn : n ∈ Region.ready md ops l) : Region.ready md ops (l.setIfInBounds n true) = [] := by
  rw [mem_ready] at hn
  obtain ⟨_, o2, ho2, h⟩ := hn
  obtain rfl : o = o2 := by rw [ho] at ho2; cases ho2; rfl
  refine List.eq_nil_iff_forall_not_mem.2 fun j hj => ?_
  rw [mem_ready] at hj
  obtain ⟨hj, x, hx, _⟩ := hj
  have hjn : j < n + 1 := by have := (Array.getElem?_eq_some_iff.1 hx).1; omega
  have hlt : j < l.size := by omega
  by_cases hjn' : j = n
  · subst hjn'; simp [hlt] at hj
  · rw [getD_set_ne true (Ne.symm hjn')] at hj
    obtain ⟨e, he, hb, rfl⟩ := hw j (by omega)
    have := h e he hb
    simp [Array.getD, hlt] at this hj
    rw [this] at hj; cases hj
theorem wpAny_peel {n : Nat} {o o' : Oper} (hsz : ops.size = n + 1) (hs : ops'.size = ops.size) (ho : ops[n]? = some o) (ho' : ops'[n]? = some o') (ha : ∀ i : Nat, (ops'[i]?).map Oper.after = (ops[i]?).map Oper.after) (hne : ∀ i : Nat, i ≠ n → ops'[i]? = ops[i]?)
    (hwf : ∀ (i : Nat) (x : Oper), ops[i]? = some x → ∀ e ∈ x.after, Region.binds md e = true → e.on < i) (hw : ∀ i, i < n → ∃ e ∈ o.after, Region.binds md e = true ∧ e.on = i) (hg : ∀ (i : Nat) (x : Oper), ops[i]? = some x → x.guard = none)
    (hno : ∀ (K : Act → World → Prop) (Q : Exit → Act → World → Prop) (a : Act) (w : World), wpOp P ops' Q n K a w → K a w) :
    ∀ (fuel : Nat) (l : Array Bool) (a : Act) (w : World), l.size = n + 1 → l.getD n true = false → wpAnyH P md ops' (Peeled P o Q) S fuel l a w → wpAny P md ops Q fuel l a w := by
  intro fuel
  induction fuel with
  | zero => intro l a w hl hn h; exact absurd (ready_same ha hs l ▸ h.1) (ready_some hsz hwf hl hn)
  | succ fuel ih =>
    intro l a w hl hn h
    refine ⟨fun h0 => absurd h0 (ready_some hsz hwf hl hn), fun i hi => ?_⟩
    have h2 := h.2 i (by rw [ready_same ha hs]; exact hi)
    by_cases hin : i = n
    · subst hin
      have h3 := (hno _ _ _ _ h2).2
      have hr := ready_none hsz ho hw hl hi
      have h4 : o.wp P a w (fun a w => Q .normal a w) Q := by
        cases fuel with
        | zero => exact h3.2
        | succ f => exact h3.1 (by rw [ready_same ha hs]; exact hr)
      unfold wpOp
      simp only [ho]
      rw [if_pos (by simp [Region.wanted, hg _ _ ho])]
      exact .inl (Oper.wp_mono (fun a w h => wpAny_done hr h fuel) h4)
    · have hil : ∀ a w, (S w ∧ wpAnyH P md ops' (Peeled P o Q) S fuel (l.setIfInBounds i true) a w) → wpAny P md ops Q fuel (l.setIfInBounds i true) a w :=
        fun a w h => ih _ a w (by simpa using hl) (by rw [getD_set_ne true hin]; exact hn) h.2
      unfold wpOp at h2 ⊢
      rw [hne i hin] at h2
      obtain ⟨x, hx, _⟩ := (mem_ready.1 hi).2
      simp only [hx] at h2 ⊢
      rw [if_pos (by simp [Region.wanted, hg _ _ hx])] at h2 ⊢
      exact h2.imp (wp_peeled hil) (fun h => ⟨h.1, Peeled.out h.2⟩)
def stillOf (o : Oper) : Oper := { o with op := .move (.const (.bool true)), dst := none }
theorem still_op {n : Nat} {o : Oper} (ho' : ops'[n]? = some (stillOf o)) (hg : o.guard = none) (K : Act → World → Prop) (Q : Exit → Act → World → Prop) (a : Act) (w : World) (h : wpOp P ops' Q n K a w) : K a w := by
  unfold wpOp at h
  simp only [ho'] at h
  rw [if_pos (by simp [Region.wanted, stillOf, hg])] at h
  rcases h with h | h
  · exact h
  · exact absurd h.1.1 (fun hh => Array.not_mem_empty _ hh)
theorem wp_region_peel {id : Nat} {a : Act} {w : World} (n : Nat) (o : Oper) (ops2 : List Oper) (hm : P.follows .mixedOrders = true) (ho : ops[n]? = some o) (h2 : ops.toList.set n (stillOf o) = ops2) (hsz : ops.size = n + 1)
    (hc : ((List.range (n + 1)).all fun i => match ops[i]? with | some x => x.guard.isNone && x.after.all fun e => !Region.binds .any e || decide (e.on < i) | none => true) = true) (hw : ((List.range n).all fun i => o.after.any fun e => Region.binds .any e && e.on == i) = true)
    (hS : S w.drew) (h : S w.drew → wpAnyH P .any ops2.toArray (Peeled P o Q) S (n + 1) (Array.replicate (n + 1) false) a w.drew) : (Code.region id ops true).wp P Q a w := by
  subst h2
  have hc' : ∀ (i : Nat) (x : Oper), ops[i]? = some x → x.guard = none ∧ ∀ e ∈ x.after, Region.binds .any e = true → e.on < i := by
    intro i x hx
    have hi : i < n + 1 := by have := (Array.getElem?_eq_some_iff.1 hx).1; omega
    have := List.all_eq_true.1 hc i (List.mem_range.2 hi)
    rw [hx] at this
    simp only [Bool.and_eq_true, Option.isNone_iff_eq_none, Array.all_eq_true_iff_forall_mem, Bool.or_eq_true, Bool.not_eq_true', decide_eq_true_eq] at this
    exact ⟨this.1, fun e he hb => (this.2 e he).resolve_left (by rw [hb]; simp)⟩
  have hget : ∀ i : Nat, (ops.toList.set n (stillOf o)).toArray[i]? = if i = n then some (stillOf o) else ops[i]? := by
    intro i
    have hn : n < ops.toList.length := by simp; omega
    by_cases hi : i = n
    · subst hi; simp [hsz]
    · simp [hi, Ne.symm hi]
  have hn := hget n
  rw [if_pos rfl] at hn
  refine wp_region_any hm ?_
  rw [hsz]
  refine wpAny_peel (S := S) (ops' := (ops.toList.set n (stillOf o)).toArray) hsz (by simp) ho hn (fun i => ?_) (fun i hi => by rw [hget, if_neg hi]) (fun i x hx => (hc' i x hx).2) (fun i hi => ?_) (fun i x hx => (hc' i x hx).1) (still_op hn (hc' _ _ ho).1) _ _ _ _ (by simp) (by simp) (h hS)
  · rw [hget]; split
    · next h => subst h; rw [ho]; rfl
    · rfl
  · have := List.all_eq_true.1 hw i (List.mem_range.2 hi)
    obtain ⟨e, he, hb⟩ := Array.any_eq_true'.1 this
    simp only [Bool.and_eq_true, beq_iff_eq] at hb
    exact ⟨e, he, hb.1, hb.2⟩
end

end Go.Proofs.Ytnclljamcfoolaa
