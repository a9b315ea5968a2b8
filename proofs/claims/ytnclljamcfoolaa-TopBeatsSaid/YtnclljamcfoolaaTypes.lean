/- The data of the works, and what is checked of them. -/
import Derived.Test.YtnclljamcfoolaaBase
namespace Go.Proofs.Ytnclljamcfoolaa
open Go.RowKit

structure Rg where
  mn : Int
  mx : Int
deriving DecidableEq
def Rg.cs (x : Rg) : List Value := [.int .i64 x.mn, .int .i64 x.mx]
structure Rd where
  kind : Int
  a : Int
  b : Int
  secs : Int
  shown : Rg
deriving DecidableEq
def Rd.cs (r : Rd) : List Value := [.int .i64 r.kind, .int .i64 r.a, .int .i64 r.b, .int .i64 r.secs, .int .i64 r.shown.mn, .int .i64 r.shown.mx]
structure Snd where
  tone : Rg
  slope : Rg
deriving DecidableEq
def Snd.cs (s : Snd) : List Value := [.int .i64 s.tone.mn, .int .i64 s.tone.mx, .int .i64 s.slope.mn, .int .i64 s.slope.mx]

/-- a row of things that lies in memory: n of them from A on -/
def Row {α : Type} (enc : α → List Value) (sz : Nat) (W : World) (A : Option Addr) (xs : List α) : Prop :=
  xs = [] ∨ ∃ b o, A = some ⟨b, o, none⟩ ∧ ∀ i x, xs[i]? = some x → ∀ j v, (enc x)[j]? = some v → W.cell? ⟨b, o + i * sz + j, none⟩ = some v
theorem Row.below {α : Type} {enc : α → List Value} {sz : Nat} {w W : World} {A : Option Addr} {xs : List α} (h : Row enc sz w A xs) (hb : Below w.heap.size w W) : Row enc sz W A xs := by
  rcases h with h | ⟨b, o, hA, h⟩
  · exact .inl h
  · refine .inr ⟨b, o, hA, fun i x hx j v hv => ?_⟩
    have hc := h i x hx j v hv
    exact (hb.cell (p := ⟨b, _, none⟩) (World.block_lt_of_cell? w _ hc)).trans hc
theorem Row.cell {α : Type} {enc : α → List Value} {sz : Nat} {w : World} {A : Option Addr} {xs : List α} (h : Row enc sz w A xs) (k : Nat) (hk : k < xs.length) :
    ∃ b o, A = some ⟨b, o, none⟩ ∧ ∀ j v, (enc xs[k])[j]? = some v → w.cell? ⟨b, o + k * sz + j, none⟩ = some v := by
  rcases h with h | ⟨b, o, hA, h⟩
  · subst h; simp at hk
  · exact ⟨b, o, hA, h k xs[k] (List.getElem?_eq_getElem hk)⟩
theorem Row.rg {w : World} {A : Option Addr} {xs : List Rg} (h : Row Rg.cs 2 w A xs) (k : Nat) (hk : k < xs.length) : ∃ b o, A = some ⟨b, o, none⟩ ∧ b < w.heap.size ∧ w.cell? ⟨b, o + k * 2, none⟩ = some (.int .i64 xs[k].mn) ∧ w.cell? ⟨b, o + k * 2 + 1, none⟩ = some (.int .i64 xs[k].mx) := by
  obtain ⟨b, o, hA, h⟩ := h.cell k hk
  exact ⟨b, o, hA, World.block_lt_of_cell? w _ (h 0 _ rfl), h 0 _ rfl, h 1 _ rfl⟩
theorem Row.rd {w : World} {A : Option Addr} {xs : List Rd} (h : Row Rd.cs 6 w A xs) (k : Nat) (hk : k < xs.length) : ∃ b o, A = some ⟨b, o, none⟩ ∧ b < w.heap.size ∧ w.cell? ⟨b, o + k * 6, none⟩ = some (.int .i64 xs[k].kind) ∧ w.cell? ⟨b, o + k * 6 + 1, none⟩ = some (.int .i64 xs[k].a) ∧ w.cell? ⟨b, o + k * 6 + 2, none⟩ = some (.int .i64 xs[k].b) ∧
    w.cell? ⟨b, o + k * 6 + 3, none⟩ = some (.int .i64 xs[k].secs) ∧ w.cell? ⟨b, o + k * 6 + 4, none⟩ = some (.int .i64 xs[k].shown.mn) ∧ w.cell? ⟨b, o + k * 6 + 5, none⟩ = some (.int .i64 xs[k].shown.mx) := by
  obtain ⟨b, o, hA, h⟩ := h.cell k hk
  exact ⟨b, o, hA, World.block_lt_of_cell? w _ (h 0 _ rfl), h 0 _ rfl, h 1 _ rfl, h 2 _ rfl, h 3 _ rfl, h 4 _ rfl, h 5 _ rfl⟩
theorem Row.snd {w : World} {A : Option Addr} {xs : List Snd} (h : Row Snd.cs 4 w A xs) (k : Nat) (hk : k < xs.length) : ∃ b o, A = some ⟨b, o, none⟩ ∧ b < w.heap.size ∧ w.cell? ⟨b, o + k * 4, none⟩ = some (.int .i64 xs[k].tone.mn) ∧ w.cell? ⟨b, o + k * 4 + 1, none⟩ = some (.int .i64 xs[k].tone.mx) ∧ w.cell? ⟨b, o + k * 4 + 2, none⟩ = some (.int .i64 xs[k].slope.mn) ∧
    w.cell? ⟨b, o + k * 4 + 3, none⟩ = some (.int .i64 xs[k].slope.mx) := by
  obtain ⟨b, o, hA, h⟩ := h.cell k hk
  exact ⟨b, o, hA, World.block_lt_of_cell? w _ (h 0 _ rfl), h 0 _ rfl, h 1 _ rfl, h 2 _ rfl, h 3 _ rfl⟩

def inB (n lo hi : Int) : Bool := decide (lo ≤ n) && decide (n ≤ hi)
theorem inB_true {n lo hi : Int} : inB n lo hi = true ↔ lo ≤ n ∧ n ≤ hi := by simp [inB]
theorem inB_false {n lo hi : Int} : inB n lo hi = false ↔ ¬ (lo ≤ n ∧ n ≤ hi) := by rw [← inB_true]; simp

/-- the first error of some things -/
def firstErr {α : Type} (f : α → Int) : List α → Int
  | [] => 0
  | x :: xs => if f x = 0 then firstErr f xs else f x
theorem firstErr_drop {α : Type} (f : α → Int) (xs : List α) (k : Nat) (x : α) (hk : xs[k]? = some x) : firstErr f (xs.drop k) = if f x = 0 then firstErr f (xs.drop (k + 1)) else f x := by
  have hlt : k < xs.length := by
    rcases Nat.lt_or_ge k xs.length with h | h
    · exact h
    · rw [List.getElem?_eq_none h] at hk; cases hk
  rw [List.drop_eq_getElem_cons hlt]
  have : xs[k] = x := by rw [List.getElem?_eq_getElem hlt] at hk; exact Option.some.inj hk
  rw [this]; rfl
theorem firstErr_at {α : Type} (f : α → Int) (xs : List α) (k : Nat) (hk : k < xs.length) : firstErr f (xs.drop k) = if f xs[k] = 0 then firstErr f (xs.drop (k + 1)) else f xs[k] :=
  firstErr_drop f xs k xs[k] (List.getElem?_eq_getElem hk)
theorem firstErr_zero {α : Type} (f : α → Int) (xs : List α) : firstErr f xs = 0 ↔ ∀ x ∈ xs, f x = 0 := by
  induction xs with
  | nil => simp [firstErr]
  | cons x xs ih =>
    simp only [firstErr, List.mem_cons, forall_eq_or_imp]
    by_cases h : f x = 0 <;> simp [h, ih]

def rgErr (x : Rg) (lo hi : Int) : Int := if inB x.mn lo hi = false then 1 else if inB x.mx lo hi = false then 1 else if x.mx < x.mn then 5 else 0

theorem rgErr_zero {x : Rg} {lo hi : Int} (h : rgErr x lo hi = 0) : lo ≤ x.mn ∧ x.mn ≤ hi ∧ lo ≤ x.mx ∧ x.mx ≤ hi ∧ x.mn ≤ x.mx := by
  unfold rgErr at h
  (repeat' split at h) <;> simp_all [inB_true]
/-- layer 2 -/
def readErr (r : Rd) (n : Int) : Int :=
  if inB r.kind 1 3 = false then 8 else if inB r.a 0 (n - 1) = false then 3
  else if r.kind = 1 ∧ r.b ≠ 0 then 1 else if r.kind ≠ 1 ∧ inB r.b 0 (n - 1) = false then 3
  else if r.kind ≠ 1 ∧ r.b = r.a then 4
  else if inB r.secs (if r.kind = 3 then 0 else 1) (if r.kind = 3 then 0 else 20) = false then 1
  else if inB r.shown.mn 0 (if r.kind = 3 then 0 else 25000) = false then 1
  else if inB r.shown.mx 0 (if r.kind = 3 then 0 else 25000) = false then 1
  else if r.shown.mx < r.shown.mn then 5 else 0
def toneErr (x : Rg) : Int :=
  if inB x.mn 1 100000 = false then 1 else if inB x.mx 1 100000 = false then 1 else if x.mx < x.mn then 5 else if 20 < x.mx - x.mn then 1 else 0
structure Ear where
  slack : Int
  tones : List Rg
  reads : List Rd
def earErr (e : Ear) : Int :=
  if inB e.slack 0 3 = false then 1 else if (e.tones.length : Int) = 0 then 7 else if 3 < (e.tones.length : Int) then 6
  else if firstErr toneErr e.tones ≠ 0 then firstErr toneErr e.tones
  else if 6 < (e.reads.length : Int) then 6 else firstErr (fun r => readErr r e.tones.length) e.reads
theorem firstErr_is {α : Type} {f : α → Int} {xs : List α} {k : Nat} {hk : k < xs.length} {c : Int} (hf : firstErr f xs = firstErr f (xs.drop k)) (h : f xs[k] = c) (hc : c ≠ 0) : firstErr f xs = c := by
  rw [hf, firstErr_at f xs k hk, if_neg (by rw [h]; exact hc), h]
theorem firstErr_next {α : Type} {f : α → Int} {xs : List α} {k : Nat} {hk : k < xs.length} (hf : firstErr f xs = firstErr f (xs.drop k)) (h : f xs[k] = 0) : firstErr f xs = firstErr f (xs.drop (k + 1)) := by
  rw [hf, firstErr_at f xs k hk, if_pos h]
theorem firstErr_end {α : Type} {f : α → Int} {xs : List α} {k : Nat} (hf : firstErr f xs = firstErr f (xs.drop k)) (hk : xs.length ≤ k) : firstErr f xs = 0 := by
  rw [hf, List.drop_of_length_le hk]; rfl
theorem earErr_tone {e : Ear} {c : Int} (h : inB e.slack 0 3 = true ∧ e.tones.length ≠ 0 ∧ e.tones.length ≤ 3) (hf : firstErr toneErr e.tones = c) (hc : c ≠ 0) : earErr e = c := by
  unfold earErr; rw [if_neg (by simp [h.1]), if_neg (by omega), if_neg (by omega), if_pos (by rw [hf]; exact hc), hf]
theorem earErr_many {e : Ear} (h : inB e.slack 0 3 = true ∧ e.tones.length ≠ 0 ∧ e.tones.length ≤ 3) (hf : firstErr toneErr e.tones = 0) (h6 : 6 < (e.reads.length : Int)) : earErr e = 6 := by
  unfold earErr; rw [if_neg (by simp [h.1]), if_neg (by omega), if_neg (by omega), if_neg (by simp [hf]), if_pos h6]
theorem earErr_reads {e : Ear} {c : Int} (h : inB e.slack 0 3 = true ∧ e.tones.length ≠ 0 ∧ e.tones.length ≤ 3) (hf : firstErr toneErr e.tones = 0) (h6 : (e.reads.length : Int) ≤ 6) (hr : firstErr (fun r => readErr r e.tones.length) e.reads = c) : earErr e = c := by
  unfold earErr; rw [if_neg (by simp [h.1]), if_neg (by omega), if_neg (by omega), if_neg (by simp [hf]), if_neg (by omega), hr]
theorem toneErr_rg (x : Rg) : toneErr x = if rgErr x 1 100000 ≠ 0 then rgErr x 1 100000 else if 20 < x.mx - x.mn then 1 else 0 := by
  unfold toneErr rgErr
  (repeat' split) <;> simp_all


/-- layers 1 and 5 -/
def orE (a b : Int) : Int := if a = 0 then b else a
structure Tng where
  pitch : Rg
  tip : Rg
  root : Rg
deriving DecidableEq
structure Fil where
  up : Rg
  down : Rg
  tipw : Rg
  rootw : Rg
  least : Int
deriving DecidableEq
structure Job where
  t : Tng
  f : Fil
  shifts : List Rg
  within : Int
  meter : Int
structure Law where
  first : Int
  step : Int
  span : Int
  press : Int
deriving DecidableEq
structure Box where
  law : Law
  note : Int
  lows : List Snd
  highs : List Snd
  tip : Rg
  root : Rg
  f : Fil
  meter : Int
@[reducible] def Job.v (j : Job) (A : Option Addr) (c : Nat) : Value := .agg #[.int .i64 j.t.pitch.mn, .int .i64 j.t.pitch.mx, .int .i64 j.t.tip.mn, .int .i64 j.t.tip.mx, .int .i64 j.t.root.mn, .int .i64 j.t.root.mx, .int .i64 j.f.up.mn, .int .i64 j.f.up.mx, .int .i64 j.f.down.mn, .int .i64 j.f.down.mx,
  .int .i64 j.f.tipw.mn, .int .i64 j.f.tipw.mx, .int .i64 j.f.rootw.mn, .int .i64 j.f.rootw.mx, .int .i64 j.f.least, .slice A j.shifts.length c, .int .i64 j.within, .int .i64 j.meter]
@[reducible] def Box.v (b : Box) (A1 : Option Addr) (c1 : Nat) (A2 : Option Addr) (c2 : Nat) : Value := .agg #[.int .i64 b.law.first, .int .i64 b.law.step, .int .i64 b.law.span, .int .i64 b.law.press, .int .i64 b.note, .slice A1 b.lows.length c1, .slice A2 b.highs.length c2,
  .int .i64 b.tip.mn, .int .i64 b.tip.mx, .int .i64 b.root.mn, .int .i64 b.root.mx, .int .i64 b.f.up.mn, .int .i64 b.f.up.mx, .int .i64 b.f.down.mn, .int .i64 b.f.down.mx, .int .i64 b.f.tipw.mn, .int .i64 b.f.tipw.mx, .int .i64 b.f.rootw.mn, .int .i64 b.f.rootw.mx, .int .i64 b.f.least, .int .i64 b.meter]
def allErr (xs : List Rg) (lo hi : Int) : Int := firstErr (fun x => rgErr x lo hi) xs
def jobErr (j : Job) : Int :=
  orE (rgErr j.t.pitch (-60) 60) (orE (allErr [j.t.tip, j.t.root] 0 100) (orE (allErr [j.f.up, j.f.down, j.f.tipw, j.f.rootw] 0 12) (
  if inB j.f.least 0 100 = false then 1 else if 4 < (j.shifts.length : Int) then 6 else orE (allErr j.shifts (-60) 60) (
  if inB j.within 0 60 = false then 1 else if inB j.meter 0 6 = false then 1 else 0))))
def lawErr (l : Law) : Int := if inB l.first 0 30 = false then 1 else if inB l.step (-5) 5 = false then 1 else if inB l.span 0 20 = false then 1 else if inB l.press 0 3 = false then 1 else 0
def sndErr (s : Snd) : Int := orE (rgErr s.tone (-30) 30) (rgErr s.slope (-3) 3)
def sndsErr (l : List Snd) (most : Int) : Int := if most < (l.length : Int) then 6 else firstErr sndErr l
def blankOf (b : Box) : Job := ⟨⟨⟨0, 0⟩, b.tip, b.root⟩, b.f, [], b.law.span, b.meter⟩
def boxErr (b : Box) : Int :=
  orE (lawErr b.law) (if inB b.note 0 11 = false then 1 else if inB (b.law.first + b.law.step * b.note) 0 30 = false then 1 else
  orE (sndsErr b.lows 4) (orE (sndsErr b.highs 5) (jobErr (blankOf b))))
theorem lawErr_zero {l : Law} (h : lawErr l = 0) : 0 ≤ l.first ∧ l.first ≤ 30 ∧ -5 ≤ l.step ∧ l.step ≤ 5 ∧ 0 ≤ l.span ∧ l.span ≤ 20 ∧ 0 ≤ l.press ∧ l.press ≤ 3 := by
  unfold lawErr at h
  (repeat' split at h) <;> simp_all [inB_true]
theorem due_wrap {b : Box} : lawErr b.law = 0 → inB b.note 0 11 = true → wrap64 (b.law.first + wrap64 (b.law.step * b.note)) = b.law.first + b.law.step * b.note := by
  intro h1 h2
  have h := lawErr_zero h1
  rw [inB_true] at h2
  have a1 := Int.mul_le_mul_of_nonneg_right (c := b.note) (a := -5) (b := b.law.step) h.2.2.1 h2.1
  have a2 := Int.mul_le_mul_of_nonneg_right (c := b.note) (a := b.law.step) (b := 5) h.2.2.2.1 h2.1
  generalize b.law.step * b.note = m at *
  unfold wrap64; omega
theorem heap_new (w : World) (o : Obj) : (w.alloc o).heap[w.heap.size]? = some o := heap_alloc_new w o
theorem row_new2 (w : World) (x y : Rg) : Row Rg.cs 2 (w.alloc (.cells #[.int .i64 x.mn, .int .i64 x.mx, .int .i64 y.mn, .int .i64 y.mx] 26)) (some ⟨w.heap.size, 0, none⟩) [x, y] := by
  refine .inr ⟨_, _, rfl, fun i z hz j v hv => ?_⟩
  rw [cell_of_row _ _ _ _ _ _ (heap_new w _)]
  match i with
  | 0 => obtain rfl : x = z := by simpa using hz
         match j with
         | 0 => simpa [Rg.cs] using hv
         | 1 => simpa [Rg.cs] using hv
         | j + 2 => simp [Rg.cs] at hv
  | 1 => obtain rfl : y = z := by simpa using hz
         match j with
         | 0 => simpa [Rg.cs] using hv
         | 1 => simpa [Rg.cs] using hv
         | j + 2 => simp [Rg.cs] at hv
  | i + 2 => simp at hz
theorem row_new4 (w : World) (x y z u : Rg) : Row Rg.cs 2 (w.alloc (.cells #[.int .i64 x.mn, .int .i64 x.mx, .int .i64 y.mn, .int .i64 y.mx, .int .i64 z.mn, .int .i64 z.mx, .int .i64 u.mn, .int .i64 u.mx] 26)) (some ⟨w.heap.size, 0, none⟩) [x, y, z, u] := by
  refine .inr ⟨_, _, rfl, fun i q hq j v hv => ?_⟩
  rw [cell_of_row _ _ _ _ _ _ (heap_new w _)]
  have hj : j < 2 := by
    rcases Nat.lt_or_ge j 2 with h | h
    · exact h
    · rw [List.getElem?_eq_none (by simpa [Rg.cs] using h)] at hv; cases hv
  have hi : i < 4 := by
    rcases Nat.lt_or_ge i 4 with h | h
    · exact h
    · rw [List.getElem?_eq_none (by simpa using h)] at hq; cases hq
  obtain rfl | rfl | rfl | rfl : i = 0 ∨ i = 1 ∨ i = 2 ∨ i = 3 := by omega
  all_goals
    simp only [List.getElem?_cons_zero, List.getElem?_cons_succ, Option.some.injEq] at hq
    subst hq
    obtain rfl | rfl : j = 0 ∨ j = 1 := by omega
    all_goals simpa [Rg.cs] using hv

end Go.Proofs.Ytnclljamcfoolaa
