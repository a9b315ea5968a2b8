/- Walks of package meter: all truths of an ear without readings. -/
import Derived.Test.YtnclljamcfoolaaCollect
import Derived.Test.YtnclljamcfoolaaMeter1
namespace Go.Proofs.Ytnclljamcfoolaa
open Go.RowKit Go.Shelf
set_option linter.unusedVariables false

theorem earErr_zero {e : Ear} (h : earErr e = 0) : 1 ≤ e.tones.length ∧ e.tones.length ≤ 3 ∧ ∀ x ∈ e.tones, 1 ≤ x.mn ∧ x.mn ≤ 100000 ∧ 1 ≤ x.mx ∧ x.mx ≤ 100000 ∧ x.mn ≤ x.mx ∧ x.mx - x.mn ≤ 20 := by
  unfold earErr at h
  split at h
  · cases h
  split at h
  · cases h
  split at h
  · cases h
  split at h
  · next h1 => exact absurd h h1
  next _ h2 h3 h4 =>
  refine ⟨by omega, by omega, fun x hx => ?_⟩
  have ht := (firstErr_zero _ _).1 (Decidable.not_not.1 h4) x hx
  unfold toneErr at ht
  (repeat' split at ht) <;> simp_all [inB_true] <;> omega
theorem upto_len (x : Rg) (h : x.mx - x.mn ≤ 20) : (upto x).length ≤ 21 := by simp [upto]; omega
theorem flatMap_len {α β : Type} (l : List α) (f : α → List β) (k : Nat) (h : ∀ x ∈ l, (f x).length ≤ k) : (l.flatMap f).length ≤ l.length * k := by
  induction l with
  | nil => simp
  | cons x l ih =>
    have h1 := h x (by simp)
    have h2 := ih (fun y hy => h y (by simp [hy]))
    simp only [List.flatMap_cons, List.length_append, List.length_cons, Nat.succ_mul]
    omega
theorem truthsFrom_len (ok : T3 → Bool) (l : List Rg) : ∀ (i : Nat) (t : T3), (∀ x ∈ l, x.mx - x.mn ≤ 20) → (truthsFrom ok l i t).length ≤ 21 ^ l.length := by
  induction l with
  | nil => intro i t _; simp only [truthsFrom]; split <;> simp
  | cons x l ih =>
    intro i t h
    have h1 := upto_len x (h x (by simp))
    have h2 := flatMap_len (upto x) (fun n => truthsFrom ok l (i + 1) (t.set i n)) (21 ^ l.length) (fun n _ => ih _ _ (fun y hy => h y (by simp [hy])))
    simp only [truthsFrom, List.length_cons, Nat.pow_succ]
    have h3 : (upto x).length * 21 ^ l.length ≤ 21 * 21 ^ l.length := Nat.mul_le_mul_right _ h1
    have h4 : 21 ^ l.length * 21 = 21 * 21 ^ l.length := Nat.mul_comm _ _
    omega
theorem allTruths_len (ok : T3 → Bool) {e : Ear} (h : earErr e = 0) : (allTruths ok e).length ≤ 9261 := by
  obtain ⟨h1, h2, h3⟩ := earErr_zero h
  have := truthsFrom_len ok e.tones 0 ⟨0, 0, 0⟩ (fun x hx => (h3 x hx).2.2.2.2.2)
  have h4 : 21 ^ e.tones.length ≤ 21 ^ 3 := Nat.pow_le_pow_right (by omega) h2
  unfold allTruths; omega

set_option maxRecDepth 100000 in
set_option maxHeartbeats 1000000 in
theorem truths_calls (e : Ear) (b o c1 : Nat) (A2 : Option Addr) (c2 : Nat) (w : World) (h1 : Row Rg.cs 2 w (some ⟨b, o, none⟩) e.tones) (hb : b < w.heap.size) :
    Calls Try.prog 82 #[.agg #[.int .i64 e.slack, .slice (some ⟨b, o, none⟩) e.tones.length c1, .slice A2 0 c2]] w fun ed w' => ∃ be bl, ed = .returned (.func (.func 104) #[] #[.pointer (some ⟨be, 0, none⟩), .pointer (some ⟨bl, 0, none⟩)]) ∧ Fw e c1 A2 0 c2 be bl b o w' ∧ Below w.heap.size w w' := by
  go_enter Try.func82, Try.ntmps82
  go_upto_region 2 with (fail)
  generalize hW : (w.alloc _).alloc _ = W
  generalize h2_ : w.heap.size + 1 = g2
  generalize h1_ : w.heap.size = g1
  obtain ⟨hB0_, Hg1, Hg2, kg1, kg2, fg1, fg2, lg1, lg2, bg1, bg2, ng12, ng21⟩ := gen2 w _ _ _ _ hW h2_ h1_
  clear hW h1_ h2_
  have H0W := Lib.hid hB0_
  clear hB0_
  have HHg1 := Lib.hid Hg1
  have HHg2 := Lib.hid Hg2
  clear Hg1 Hg2
  go_wp2_with fail
  go_loopw [9] (fun i wr => i = .int .i64 0 ∧ wr = W) (fun _ _ => 0)
  case atStart => exact ⟨rfl, rfl⟩
  case round =>
    obtain ⟨rfl, rfl⟩ := hrel
    go_wp2
    go_ret
    have hR := h1.below H0W.out
    have hlt : b < wr.heap.size := Nat.lt_of_lt_of_le hb H0W.out.size
    refine ⟨g1, g2, rfl, ⟨kg1, kg2 0, fun i hi => ?_, lg1, lg2, hlt⟩, H0W.out⟩
    obtain ⟨b', o', hA, _, h3, h4⟩ := hR.rg i hi
    cases hA
    exact ⟨h3, h4⟩

theorem appendSeq_calls (e : Ear) (c1 : Nat) (A2 : Option Addr) (n2 c2 be bl b o : Nat) (he : earErr e = 0) (w : World) (hF : Fw e c1 A2 n2 c2 be bl b o w) :
    Calls Try.prog 109 #[.slice none 0 0, .func (.func 104) #[] #[.pointer (some ⟨be, 0, none⟩), .pointer (some ⟨bl, 0, none⟩)]] w fun ed w' => ∃ v, ed = .returned v ∧ w'.ownsRow w.heap.size 93 3 v (allTruths (fun _ => true) e).length (flat T3.cs (allTruths (fun _ => true) e)) ∧ Below w.heap.size w w' := by
  obtain ⟨h1, h2, h3⟩ := earErr_zero he
  have hl := allTruths_len (fun _ => true) he
  refine (callsIn_wide (n := 3)).1 ((appendSeq_in Fence.wide 3 trivial rfl (by omega) 104 _ trivial (enters_of Try.func104 (by kernel_rfl) rfl) _ (allTruths (fun _ => true) e).length (by unfold maxLen; omega) (by omega) w
    (truths_seq Fence.wide 2 trivial trivial rfl rfl e c1 A2 n2 c2 be bl b o h2 (fun x hx => ⟨(h3 x hx).1, (h3 x hx).2.1, (h3 x hx).2.2.1, (h3 x hx).2.2.2.1⟩) w hF)).mono ?_)
  rintro ed w' ⟨v, ss, rfl, rfl, hr, hb⟩
  exact ⟨v, rfl, hr, hb⟩

theorem collect_calls (e : Ear) (c1 : Nat) (A2 : Option Addr) (n2 c2 be bl b o : Nat) (he : earErr e = 0) (w : World) (hF : Fw e c1 A2 n2 c2 be bl b o w) :
    Calls Try.prog 95 #[.func (.func 104) #[] #[.pointer (some ⟨be, 0, none⟩), .pointer (some ⟨bl, 0, none⟩)]] w fun ed w' => ∃ v, ed = .returned v ∧ w'.ownsRow w.heap.size 93 3 v (allTruths (fun _ => true) e).length (flat T3.cs (allTruths (fun _ => true) e)) ∧ Below w.heap.size w w' := by
  go_enter Try.func95, Try.ntmps95
  go_wp2_with (go_at_call 109; refine (appendSeq_calls e c1 A2 n2 c2 be bl b o he _ hF).mono ?_; rintro e_ w1 ⟨v, rfl, hr, hb⟩; have HR := Lib.hid hr; clear hr)
  go_ret
  exact ⟨v, rfl, HR.out, hb⟩

end Go.Proofs.Ytnclljamcfoolaa
