/- Walk of musettekit.SameRanges. -/
import Derived.Test.YtnclljamcfoolaaHigher
namespace Go.Proofs.Ytnclljamcfoolaa
open Go.RowKit
set_option linter.unusedVariables false
set_option linter.unusedSimpArgs false

def sameAt (xs ys : List Rg) (k : Nat) : Bool := decide (xs.length = ys.length) && decide (xs.take k = ys.take k)

set_option maxRecDepth 100000 in
set_option maxHeartbeats 1000000 in
theorem same_calls (xs ys : List Rg) (A B : Option Addr) (c1 c2 : Nat) (hx : xs.length ≤ 1000000) (w : World) (h1 : Row Rg.cs 2 w A xs) (h2 : Row Rg.cs 2 w B ys) :
    Calls Try.prog 35 #[.slice A xs.length c1, .slice B ys.length c2] w fun e w' => e = .returned (.bool (sameAt xs ys xs.length)) ∧ Below w.heap.size w w' := by
  have HR1 := Lib.hid h1
  have HR2 := Lib.hid h2
  clear h1 h2
  go_enter Try.func35, Try.ntmps35
  go_wp2_with fail
  go_loopw [5, 6] (fun s i wr => ∃ k : Nat, k ≤ xs.length ∧ i = .int .i64 k ∧ s = .bool (sameAt xs ys k) ∧ Below w.heap.size w wr)
    (fun _ i _ => xs.length - (intOf i).toNat)
  case atStart => exact ⟨0, Nat.zero_le _, rfl, by simp [sameAt]; rw [Bool.eq_iff_iff]; simp; omega, Below.refl _ _⟩
  case round =>
    obtain ⟨k, hk, rfl, rfl, hb⟩ := hrel
    by_cases hs : sameAt xs ys k = true
    · by_cases hlt : k < xs.length
      · have hlti : ((k : Int) < (xs.length : Int)) := by omega
        have hlen : xs.length = ys.length := by simp [sameAt] at hs; exact hs.1
        obtain ⟨b, o, rfl, hlb, a0, a1⟩ := (HR1.out.below hb).rg k hlt
        obtain ⟨b2, o2, rfl, hlb2, d0, d1⟩ := (HR2.out.below hb).rg k (by omega)
        have hlti2 : ((k : Int) < (ys.length : Int)) := by omega
        rw [hs]
        go_upto_region 5 with (fail)
        by_cases hmn : xs[k].mn = ys[k].mn <;> by_cases hmx : xs[k].mx = ys[k].mx
        all_goals (
          refine wp_region_peel (S := fun w' => w' = wr.drew) 9 _ _ (by kernel_rfl) rfl rfl rfl (by kernel_rfl) (by kernel_rfl) rfl (fun hHeld => ?_)
          simp only [Act.put, stillOf, List.set_cons_succ, List.set_cons_zero, List.setIfInBounds_toArray, List.getElem_toArray, List.getElem_cons_succ, List.getElem_cons_zero]
          refine wpAnyH_take (i := 0) (v := ?_) rfl (by kernel_rfl) (by kernel_rfl) (by kernel_rfl) (fun _ _ _ h => h) (Or.inl ⟨by rfl, ?_⟩) (by assumption) ?_; rotate_left 1; (focus ((intro w_ hS_; (try dsimp only at hS_); go_simp; first | done | with_reducible rfl))); simp only [Act.put, stillOf, List.set_cons_succ, List.set_cons_zero, List.setIfInBounds_toArray, List.getElem_toArray, List.getElem_cons_succ, List.getElem_cons_zero]
          refine wpAnyH_take (i := 1) (v := ?_) rfl (by kernel_rfl) (by kernel_rfl) (by kernel_rfl) (fun _ _ _ h => h) (Or.inl ⟨by rfl, ?_⟩) (by assumption) ?_; rotate_left 1; (focus ((intro w_ hS_; (try dsimp only at hS_); go_simp; first | done | with_reducible rfl))); simp only [Act.put, stillOf, List.set_cons_succ, List.set_cons_zero, List.setIfInBounds_toArray, List.getElem_toArray, List.getElem_cons_succ, List.getElem_cons_zero]
          refine wpAnyH_take (i := 2) (v := ?_) rfl (by kernel_rfl) (by kernel_rfl) (by kernel_rfl) (fun _ _ _ h => h) (Or.inl ⟨by rfl, ?_⟩) (by assumption) ?_; rotate_left 1; (focus ((intro w_ hS_; (try dsimp only at hS_); go_simp; first | done | with_reducible rfl))); simp only [Act.put, stillOf, List.set_cons_succ, List.set_cons_zero, List.setIfInBounds_toArray, List.getElem_toArray, List.getElem_cons_succ, List.getElem_cons_zero]
          refine wpAnyH_take (i := 3) (v := ?_) rfl (by kernel_rfl) (by kernel_rfl) (by kernel_rfl) (fun _ _ _ h => h) (Or.inl ⟨by rfl, ?_⟩) (by assumption) ?_; rotate_left 1; (focus ((intro w_ hS_; (try dsimp only at hS_); go_simp; first | done | with_reducible rfl))); simp only [Act.put, stillOf, List.set_cons_succ, List.set_cons_zero, List.setIfInBounds_toArray, List.getElem_toArray, List.getElem_cons_succ, List.getElem_cons_zero]
          refine wpAnyH_take (i := 4) (v := ?_) rfl (by kernel_rfl) (by kernel_rfl) (by kernel_rfl) (fun _ _ _ h => h) (Or.inl ⟨by rfl, ?_⟩) (by assumption) ?_; rotate_left 1; (focus ((intro w_ hS_; (try dsimp only at hS_); go_simp; first | done | with_reducible rfl))); simp only [Act.put, stillOf, List.set_cons_succ, List.set_cons_zero, List.setIfInBounds_toArray, List.getElem_toArray, List.getElem_cons_succ, List.getElem_cons_zero]
          refine wpAnyH_take (i := 5) (v := ?_) rfl (by kernel_rfl) (by kernel_rfl) (by kernel_rfl) (fun _ _ _ h => h) (Or.inl ⟨by rfl, ?_⟩) (by assumption) ?_; rotate_left 1; (focus ((intro w_ hS_; (try dsimp only at hS_); go_simp; first | done | with_reducible rfl))); simp only [Act.put, stillOf, List.set_cons_succ, List.set_cons_zero, List.setIfInBounds_toArray, List.getElem_toArray, List.getElem_cons_succ, List.getElem_cons_zero]
          refine wpAnyH_take (i := 6) (v := ?_) rfl (by kernel_rfl) (by kernel_rfl) (by kernel_rfl) (fun _ _ _ h => h) (Or.inl ⟨by rfl, ?_⟩) (by assumption) ?_; rotate_left 1; (focus ((intro w_ hS_; (try dsimp only at hS_); go_simp; first | done | with_reducible rfl))); simp only [Act.put, stillOf, List.set_cons_succ, List.set_cons_zero, List.setIfInBounds_toArray, List.getElem_toArray, List.getElem_cons_succ, List.getElem_cons_zero]
          refine wpAnyH_take (i := 7) (v := ?_) rfl (by kernel_rfl) (by kernel_rfl) (by kernel_rfl) (fun _ _ _ h => h) (Or.inl ⟨by rfl, ?_⟩) (by assumption) ?_; rotate_left 1; (focus ((intro w_ hS_; (try dsimp only at hS_); go_simp; first | done | with_reducible rfl))); simp only [Act.put, stillOf, List.set_cons_succ, List.set_cons_zero, List.setIfInBounds_toArray, List.getElem_toArray, List.getElem_cons_succ, List.getElem_cons_zero]
          refine wpAnyH_take (i := 8) (v := ?_) rfl (by kernel_rfl) (by kernel_rfl) (by kernel_rfl) (fun _ _ _ h => h) (Or.inl ⟨by rfl, ?_⟩) (by assumption) ?_; rotate_left 1; (focus ((intro w_ hS_; (try dsimp only at hS_); go_simp; first | done | with_reducible rfl))); simp only [Act.put, stillOf, List.set_cons_succ, List.set_cons_zero, List.setIfInBounds_toArray, List.getElem_toArray, List.getElem_cons_succ, List.getElem_cons_zero]
          refine wpAnyH_ready (rs := [9]) (by kernel_rfl) (by simp) (AllReadyH.cons rfl (fun K hK => ?_) AllReadyH.nil)
          go_simp
          refine hK.out _ _ rfl (fun hHeld2 => ?_)
          refine wpAnyH_done (by kernel_rfl) ?_ _
          unfold Peeled
          dsimp only
          go_simp
          go_wp2_with fail)
        all_goals (
          have hst : sameAt xs ys (k + 1) = (sameAt xs ys k && decide (xs[k].mn = ys[k].mn) && decide (xs[k].mx = ys[k].mx)) := by
            unfold sameAt
            rw [List.take_succ_eq_append_getElem hlt, List.take_succ_eq_append_getElem (show k < ys.length by omega), Bool.eq_iff_iff]
            have he : xs[k] = ys[k] ↔ xs[k].mn = ys[k].mn ∧ xs[k].mx = ys[k].mx := by
              cases hx1 : xs[k]; cases hy1 : ys[k]; simp
            have hl2 : (xs.take k).length = (ys.take k).length := by simp; omega
            have hap : (xs.take k ++ [xs[k]] = ys.take k ++ [ys[k]]) ↔ (xs.take k = ys.take k ∧ xs[k] = ys[k]) := ⟨fun h => by have h3 := List.append_inj h hl2; exact ⟨h3.1, by simpa using h3.2⟩, fun h => by rw [h.1, h.2]⟩
            simp only [hap, he, Bool.and_eq_true, decide_eq_true_eq, hlen, true_and, and_assoc]
          refine ⟨⟨k + 1, by omega, by simp, ?_, bl_drew hb⟩, ?_⟩
          · rw [hst, hs]; simp [*]
          · simp [intOf]; omega)
      · rw [hs]
        have hkl : k = xs.length := by omega
        subst hkl
        go_wp2_with fail
        go_ret
        exact ⟨by rw [hs]; rfl, hb⟩
    · have hs' : sameAt xs ys k = false := by simpa using hs
      rw [hs']
      go_wp2_with fail
      go_ret
      refine ⟨?_, hb⟩
      have : sameAt xs ys xs.length = false := by
        cases h : sameAt xs ys xs.length with
        | false => rfl
        | true =>
          simp [sameAt] at h hs
          refine absurd ?_ (hs h.1)
          have h2 : xs = ys := by rw [h.1] at h; simpa using h.2
          rw [h2]
      rw [this]; rfl

end Go.Proofs.Ytnclljamcfoolaa
