/- The plain law of beats: what all truths of two tones say of their beats. -/
import Derived.Test.YtnclljamcfoolaaHigher
namespace Go.Proofs.Ytnclljamcfoolaa
open Go.RowKit
set_option linter.unusedVariables false

theorem mnOf_le (f : T3 → Int) (l : List T3) : ∀ d, mnOf f l d ≤ d ∧ ∀ t ∈ l, mnOf f l d ≤ f t := by
  induction l with
  | nil => intro d; exact ⟨Int.le_refl _, by simp⟩
  | cons t l ih =>
    intro d
    have h := ih (min d (f t))
    have e : mnOf f (t :: l) d = mnOf f l (min d (f t)) := rfl
    rw [e]
    refine ⟨by omega, fun u hu => ?_⟩
    rcases List.mem_cons.1 hu with rfl | hu
    · omega
    · exact h.2 u hu
theorem le_mnOf (f : T3 → Int) (v : Int) (l : List T3) : ∀ d, v ≤ d → (∀ t ∈ l, v ≤ f t) → v ≤ mnOf f l d := by
  induction l with
  | nil => intro d h _; exact h
  | cons t l ih =>
    intro d h hl
    have e : mnOf f (t :: l) d = mnOf f l (min d (f t)) := rfl
    have h1 := hl t List.mem_cons_self
    rw [e]
    exact ih _ (by omega) fun u hu => hl u (List.mem_cons_of_mem _ hu)
theorem le_mxOf (f : T3 → Int) (l : List T3) : ∀ d, d ≤ mxOf f l d ∧ ∀ t ∈ l, f t ≤ mxOf f l d := by
  induction l with
  | nil => intro d; exact ⟨Int.le_refl _, by simp⟩
  | cons t l ih =>
    intro d
    have h := ih (max d (f t))
    have e : mxOf f (t :: l) d = mxOf f l (max d (f t)) := rfl
    rw [e]
    refine ⟨by omega, fun u hu => ?_⟩
    rcases List.mem_cons.1 hu with rfl | hu
    · omega
    · exact h.2 u hu
theorem mxOf_le (f : T3 → Int) (v : Int) (l : List T3) : ∀ d, d ≤ v → (∀ t ∈ l, f t ≤ v) → mxOf f l d ≤ v := by
  induction l with
  | nil => intro d h _; exact h
  | cons t l ih =>
    intro d h hl
    have e : mxOf f (t :: l) d = mxOf f l (max d (f t)) := rfl
    have h1 := hl t List.mem_cons_self
    rw [e]
    exact ih _ (by omega) fun u hu => hl u (List.mem_cons_of_mem _ hu)

theorem mem_upto (x : Rg) (n : Int) : n ∈ upto x ↔ x.mn ≤ n ∧ n ≤ x.mx := by
  unfold upto
  simp only [List.mem_map, List.mem_range]
  constructor
  · rintro ⟨j, hj, rfl⟩; omega
  · intro h; exact ⟨(n - x.mn).toNat, by omega, by omega⟩
theorem mem_truths2 (e : Ear) (x y : Rg) (he : e.tones = [x, y]) (t : T3) : t ∈ allTruths (fun _ => true) e ↔ ∃ n m, (x.mn ≤ n ∧ n ≤ x.mx) ∧ (y.mn ≤ m ∧ m ≤ y.mx) ∧ t = ⟨n, m, 0⟩ := by
  unfold allTruths
  rw [he]
  simp only [truthsFrom, List.mem_flatMap, mem_upto, if_true, List.mem_singleton]
  constructor
  · rintro ⟨n, hn, m, hm, rfl⟩; exact ⟨n, m, hn, hm, by simp [T3.set]⟩
  · rintro ⟨n, m, hn, hm, rfl⟩; exact ⟨n, hn, m, hm, by simp [T3.set]⟩
theorem truths2_ok {e : Ear} {x y : Rg} (he : e.tones = [x, y]) (h : earErr e = 0) : ∀ t ∈ allTruths (fun _ => true) e, t.Ok := by
  intro t ht
  obtain ⟨n, m, hn, hm, rfl⟩ := (mem_truths2 e x y he t).1 ht
  obtain ⟨-, -, hz⟩ := earErr_zero h
  rw [he] at hz
  have h1 := hz x (by simp)
  have h2 := hz y (by simp)
  exact ⟨by simp only []; omega, by simp only []; omega, by simp only []; omega⟩

theorem tb_mono {p q s : Int} (h : p ≤ q) (hs : 1 ≤ s) : p * s / 100 ≤ q * s / 100 :=
  Int.ediv_le_ediv (by omega) (Int.mul_le_mul_of_nonneg_right h (by omega))
theorem tbOf_at (s n m c : Int) : tbOf s ⟨n, m, c⟩ = max (n - m) (m - n) * s / 100 := rfl

/-- the least and the most beats of two tones, and whether the second is the higher one -/
theorem beats_law (e : Ear) (x y : Rg) (he : e.tones = [x, y]) (h : earErr e = 0) (s : Int) (hs : 1 ≤ s ∧ s ≤ 20) (t0 : T3) (h0 : t0 ∈ allTruths (fun _ => true) e) :
    mnOf (tbOf s) (allTruths (fun _ => true) e) (tbOf s t0) = max (max 0 (y.mn - x.mx)) (-(y.mx - x.mn)) * s / 100 ∧
    mxOf (tbOf s) (allTruths (fun _ => true) e) (tbOf s t0) = max (y.mx - x.mn) (-(y.mn - x.mx)) * s / 100 := by
  obtain ⟨-, -, hz⟩ := earErr_zero h
  rw [he] at hz
  have hx := hz x (by simp)
  have hy := hz y (by simp)
  have hlo : ∀ t ∈ allTruths (fun _ => true) e, max (max 0 (y.mn - x.mx)) (-(y.mx - x.mn)) * s / 100 ≤ tbOf s t := by
    intro t ht
    obtain ⟨n, m, hn, hm, rfl⟩ := (mem_truths2 e x y he t).1 ht
    rw [tbOf_at]
    exact tb_mono (by omega) hs.1
  have hhi : ∀ t ∈ allTruths (fun _ => true) e, tbOf s t ≤ max (y.mx - x.mn) (-(y.mn - x.mx)) * s / 100 := by
    intro t ht
    obtain ⟨n, m, hn, hm, rfl⟩ := (mem_truths2 e x y he t).1 ht
    rw [tbOf_at]
    exact tb_mono (by omega) hs.1
  constructor
  · refine Int.le_antisymm ?_ (le_mnOf _ _ _ _ (hlo t0 h0) hlo)
    obtain ⟨n, m, hn, hm, hv⟩ : ∃ n m, (x.mn ≤ n ∧ n ≤ x.mx) ∧ (y.mn ≤ m ∧ m ≤ y.mx) ∧ max (n - m) (m - n) = max (max 0 (y.mn - x.mx)) (-(y.mx - x.mn)) := by
      rcases Int.lt_or_le y.mn x.mx with h1 | h1
      · rcases Int.lt_or_le x.mn y.mx with h2 | h2
        · exact ⟨max x.mn y.mn, max x.mn y.mn, by omega, by omega, by omega⟩
        · exact ⟨x.mn, y.mx, by omega, by omega, by omega⟩
      · exact ⟨x.mx, y.mn, by omega, by omega, by omega⟩
    have hmem : (⟨n, m, 0⟩ : T3) ∈ allTruths (fun _ => true) e := (mem_truths2 e x y he _).2 ⟨n, m, hn, hm, rfl⟩
    have := (mnOf_le (tbOf s) (allTruths (fun _ => true) e) (tbOf s t0)).2 _ hmem
    rw [tbOf_at s n m 0, hv] at this
    exact this
  · refine Int.le_antisymm (mxOf_le _ _ _ _ (hhi t0 h0) hhi) ?_
    obtain ⟨n, m, hn, hm, hv⟩ : ∃ n m, (x.mn ≤ n ∧ n ≤ x.mx) ∧ (y.mn ≤ m ∧ m ≤ y.mx) ∧ max (n - m) (m - n) = max (y.mx - x.mn) (-(y.mn - x.mx)) := by
      rcases Int.lt_or_le (y.mx - x.mn) (x.mx - y.mn) with h1 | h1
      · exact ⟨x.mx, y.mn, by omega, by omega, by omega⟩
      · exact ⟨x.mn, y.mx, by omega, by omega, by omega⟩
    have hmem : (⟨n, m, 0⟩ : T3) ∈ allTruths (fun _ => true) e := (mem_truths2 e x y he _).2 ⟨n, m, hn, hm, rfl⟩
    have := (le_mxOf (tbOf s) (allTruths (fun _ => true) e) (tbOf s t0)).2 _ hmem
    rw [tbOf_at s n m 0, hv] at this
    exact this

theorem higher_law (e : Ear) (x y : Rg) (he : e.tones = [x, y]) (h : earErr e = 0) :
    (verdictOf (countP (fun t => decide (t.a < t.b)) (allTruths (fun _ => true) e)) (allTruths (fun _ => true) e).length = 1 ↔ 0 < y.mn - x.mx) ∧
    (verdictOf (countP (fun t => decide (t.a < t.b)) (allTruths (fun _ => true) e)) (allTruths (fun _ => true) e).length = 2 ↔ y.mx - x.mn ≤ 0) := by
  obtain ⟨-, -, hz⟩ := earErr_zero h
  rw [he] at hz
  have hx := hz x (by simp)
  have hy := hz y (by simp)
  have hpos := allTruths_pos h
  have hall : List.countP (fun t : T3 => decide (t.a < t.b)) (allTruths (fun _ => true) e) = (allTruths (fun _ => true) e).length ↔ 0 < y.mn - x.mx := by
    rw [List.countP_eq_length]
    constructor
    · intro H
      have := H ⟨x.mx, y.mn, 0⟩ ((mem_truths2 e x y he _).2 ⟨x.mx, y.mn, by omega, by omega, rfl⟩)
      simp only [decide_eq_true_eq] at this
      omega
    · intro H t ht
      obtain ⟨n, m, hn, hm, rfl⟩ := (mem_truths2 e x y he t).1 ht
      simp only [decide_eq_true_eq]
      omega
  have hnone : List.countP (fun t : T3 => decide (t.a < t.b)) (allTruths (fun _ => true) e) = 0 ↔ y.mx - x.mn ≤ 0 := by
    rw [List.countP_eq_zero]
    constructor
    · intro H
      have := H ⟨x.mn, y.mx, 0⟩ ((mem_truths2 e x y he _).2 ⟨x.mn, y.mx, by omega, by omega, rfl⟩)
      simp only [decide_eq_true_eq] at this
      omega
    · intro H t ht
      obtain ⟨n, m, hn, hm, rfl⟩ := (mem_truths2 e x y he t).1 ht
      simp only [decide_eq_true_eq]
      omega
  unfold verdictOf countP
  rw [← hall, ← hnone]
  generalize List.countP _ _ = c at *
  generalize (allTruths (fun _ => true) e).length = n at *
  constructor
  · constructor
    · intro H; split at H <;> (try split at H) <;> omega
    · intro H; rw [if_pos (by omega)]
  · constructor
    · intro H; split at H <;> (try split at H) <;> omega
    · intro H; rw [if_neg (by omega), if_pos (by omega)]

end Go.Proofs.Ytnclljamcfoolaa
