/- Walks of package meter: the verdict on truths, and the span of a number of truths. -/
import Derived.Test.YtnclljamcfoolaaBeats1
namespace Go.Proofs.Ytnclljamcfoolaa
open Go.RowKit
set_option linter.unusedVariables false

theorem flat_at {α : Type} (enc : α → List Value) (sz : Nat) (hsz : ∀ x, (enc x).length = sz) (l : List α) : ∀ (i j : Nat) (x : α), l[i]? = some x → j < sz → (flat enc l)[i * sz + j]? = (enc x)[j]? := by
  induction l with
  | nil => intro i j x h; simp at h
  | cons y l ih =>
    intro i j x h hj
    unfold flat
    simp only [List.map_cons, List.flatten_cons]
    cases i with
    | zero =>
      obtain rfl : y = x := by simpa using h
      rw [List.getElem?_append_left (by rw [hsz]; omega)]; simp
    | succ i =>
      rw [List.getElem?_append_right (by rw [hsz, Nat.succ_mul]; omega), hsz]
      have := ih i j x (by simpa using h) hj
      rw [show (i + 1) * sz + j - sz = i * sz + j by rw [Nat.succ_mul]; omega]
      exact this
theorem row_of_own {α : Type} {enc : α → List Value} {sz : Nat} (hsz : ∀ x, (enc x).length = sz) {w : World} {base e g n cap : Nat} {l : List α} (h : w.ownsRow base e sz (.slice (some ⟨g, 0, none⟩) n cap) n (flat enc l)) : Row enc sz w (some ⟨g, 0, none⟩) l := by
  refine .inr ⟨g, 0, rfl, fun i x hx j v hv => ?_⟩
  have hj : j < sz := by
    rw [← hsz x]
    exact (List.getElem?_eq_some_iff.1 hv).1
  have hf := flat_at enc sz hsz l i j x hx hj
  rw [hv] at hf
  have hlt : i * sz + j < n * sz := by
    have := (List.getElem?_eq_some_iff.1 hf).1
    rw [h.1] at this; exact this
  rw [Nat.zero_add, h.cellAt _ hlt]; exact hf
theorem Row.t3 {w : World} {A : Option Addr} {xs : List T3} (h : Row T3.cs 3 w A xs) (k : Nat) (hk : k < xs.length) : ∃ b o, A = some ⟨b, o, none⟩ ∧ b < w.heap.size ∧ w.cell? ⟨b, o + k * 3, none⟩ = some (.int .i64 xs[k].a) ∧ w.cell? ⟨b, o + k * 3 + 1, none⟩ = some (.int .i64 xs[k].b) ∧ w.cell? ⟨b, o + k * 3 + 2, none⟩ = some (.int .i64 xs[k].c) := by
  obtain ⟨b, o, hA, h⟩ := h.cell k hk
  exact ⟨b, o, hA, World.block_lt_of_cell? w _ (h 0 _ rfl), h 0 _ rfl, h 1 _ rfl, h 2 _ rfl⟩

def countP (p : T3 → Bool) (l : List T3) : Int := (l.countP p : Nat)
def verdictOf (so n : Int) : Int := if so = n then 1 else if so = 0 then 2 else 3

set_option maxRecDepth 100000 in
set_option maxHeartbeats 1000000 in
theorem verdict48 (l : List T3) (g0 cap B1 B2 : Nat) (hl : l.length ≤ 1000000) (w : World) (hR : Row T3.cs 3 w (some ⟨g0, 0, none⟩) l) (h1 : w.cell? ⟨B1, 0, none⟩ = some (.int .i64 1)) (h2 : w.cell? ⟨B2, 0, none⟩ = some (.int .i64 0)) :
    Calls Try.prog 47 #[.slice (some ⟨g0, 0, none⟩) l.length cap, .func (.func 48) #[] #[.pointer (some ⟨B1, 0, none⟩), .pointer (some ⟨B2, 0, none⟩)]] w fun e w' => e = .returned (.int .i64 (verdictOf (countP (fun t => decide (t.a < t.b)) l) l.length)) ∧ Below w.heap.size w w' := by
  have l1 := World.block_lt_of_cell? w _ h1
  have l2 := World.block_lt_of_cell? w _ h2
  have HR := Lib.hid hR
  have H1 := Lib.hid h1
  have H2 := Lib.hid h2
  clear hR h1 h2
  go_enter Try.func47, Try.ntmps47
  go_wp2_with fail
  go_loopw [5, 10] (fun s i wr => ∃ k : Nat, k ≤ l.length ∧ i = .int .i64 k ∧ s = .int .i64 (countP (fun t => decide (t.a < t.b)) (l.take k)) ∧ Below w.heap.size w wr)
    (fun _ i _ => l.length - (intOf i).toNat)
  case atStart => exact ⟨0, Nat.zero_le _, rfl, rfl, Below.refl _ _⟩
  case round =>
    obtain ⟨k, hk, rfl, rfl, hb⟩ := hrel
    have HB := Lib.hid hb
    clear hb
    have hq := CB.of HB.out
    have hcb : 0 ≤ countP (fun t => decide (t.a < t.b)) (l.take k) ∧ countP (fun t => decide (t.a < t.b)) (l.take k) ≤ 1000000 := by
      have := List.countP_le_length (p := fun t : T3 => decide (t.a < t.b)) (l := l.take k)
      have h2 := List.length_take_le k l
      unfold countP; omega
    by_cases hlt : k < l.length
    · obtain ⟨b, o, hA, hlb, c0, c1, c2⟩ := HR.out.t3 k hlt
      obtain ⟨rfl, rfl⟩ : g0 = b ∧ 0 = o := by simpa using hA
      clear hA
      have hlti : ((k : Int) < (l.length : Int)) := by omega
      simp only [Nat.zero_add] at c0 c1 c2
      have hs := Lib.hid (show countP (fun t => decide (t.a < t.b)) (l.take (k + 1)) = countP (fun t => decide (t.a < t.b)) (l.take k) + if decide (l[k].a < l[k].b) then 1 else 0 by
        unfold countP; rw [List.take_succ_eq_append_getElem hlt, List.countP_append]; by_cases h : l[k].a < l[k].b <;> simp [h, List.countP_cons])
      go_wp2_with (go_at_call 48; refine (higher48 (l[k]) B1 B2 _ (((CB.of (bl_alloc HB.out _)).1 _ 0 l1).trans H1.out) (((CB.of (bl_alloc HB.out _)).1 _ 0 l2).trans H2.out)).mono ?_; rintro e_ w1 ⟨rfl, hb_⟩; have HB_ := Lib.hid (bl_then2 (by (repeat (with_reducible first | exact HB.out | apply bl_alloc2 | apply bl_drew2 | apply bl_drewN2))) hb_); clear HB hb_; (try clear hq); have HB := HB_; clear HB_; have hq := CB.of HB.out)
      all_goals (have hs' := hs.out; refine ⟨⟨k + 1, by omega, by simp, ?_, HB.out⟩, ?_⟩ <;> first | (rw [hs']; simp_all; done) | (rw [hs']; simp_all; omega) | (simp [intOf]; omega))
    · have hkl : k = l.length := by omega
      subst hkl
      rw [List.take_length] at hcb ⊢
      go_wp2_with fail
      all_goals (go_ret; refine ⟨ret_int ?_, HB.out⟩; go_tidy; unfold verdictOf; simp_all)

def tbOf (s : Int) (t : T3) : Int := t.apart 0 1 * s / 100
def mnOf (f : T3 → Int) (l : List T3) (d : Int) : Int := l.foldl (fun m t => min m (f t)) d
def mxOf (f : T3 → Int) (l : List T3) (d : Int) : Int := l.foldl (fun m t => max m (f t)) d

end Go.Proofs.Ytnclljamcfoolaa
