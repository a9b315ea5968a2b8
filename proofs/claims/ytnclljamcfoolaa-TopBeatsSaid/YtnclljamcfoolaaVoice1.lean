/- Walks of package voice: sums of ranges, the beats of two tongues. -/
import Derived.Test.YtnclljamcfoolaaTypes
namespace Go.Proofs.Ytnclljamcfoolaa
open Go.RowKit

theorem plus_calls (a b c d : Int) (w : World) (hx : -1000000000 ≤ a ∧ a ≤ 1000000000 ∧ -1000000000 ≤ b ∧ b ≤ 1000000000) (hy : -1000000000 ≤ c ∧ c ≤ 1000000000 ∧ -1000000000 ≤ d ∧ d ≤ 1000000000) :
    Calls Try.prog 80 #[.agg #[.int .i64 a, .int .i64 b], .agg #[.int .i64 c, .int .i64 d]] w fun e w' => e = .returned (.agg #[.int .i64 (a + c), .int .i64 (b + d)]) ∧ Below w.heap.size w w' := by
  go_enter Try.func80, Try.ntmps80
  go_wp2
  exact bodyPost_ret (v := .agg #[.int .i64 (a + c), .int .i64 (b + d)]) (by simp [results, Try.results80, go_sem]) rfl ⟨rfl, by (repeat (first | assumption | exact Below.refl _ _ | refine bl_alloc ?_ _ | refine bl_drew ?_ | refine bl_drewN ?_ _))⟩

theorem less_calls (a b c d : Int) (w : World) (hx : -1000000000 ≤ a ∧ a ≤ 1000000000 ∧ -1000000000 ≤ b ∧ b ≤ 1000000000) (hy : -1000000000 ≤ c ∧ c ≤ 1000000000 ∧ -1000000000 ≤ d ∧ d ≤ 1000000000) :
    Calls Try.prog 102 #[.agg #[.int .i64 a, .int .i64 b], .agg #[.int .i64 c, .int .i64 d]] w fun e w' => e = .returned (.agg #[.int .i64 (a - d), .int .i64 (b - c)]) ∧ Below w.heap.size w w' := by
  go_enter Try.func102, Try.ntmps102
  go_wp2
  exact bodyPost_ret (v := .agg #[.int .i64 (a - d), .int .i64 (b - c)]) (by simp [results, Try.results102, go_sem]) rfl ⟨rfl, by (repeat (first | assumption | exact Below.refl _ _ | refine bl_alloc ?_ _ | refine bl_drew ?_ | refine bl_drewN ?_ _))⟩

theorem mul_bd {n a : Int} (hn : 0 ≤ n ∧ n ≤ 100) (ha : -100000 ≤ a ∧ a ≤ 100000) : -10000000 ≤ n * a ∧ n * a ≤ 10000000 := by
  constructor
  · have := Int.mul_le_mul_of_nonneg_left (c := n) (a := -100000) (b := a) ha.1 hn.1; omega
  · have := Int.mul_le_mul_of_nonneg_left (c := n) (a := a) (b := 100000) ha.2 hn.1; omega
theorem wrap_mul {n a : Int} (hn : 0 ≤ n ∧ n ≤ 100) (ha : -100000 ≤ a ∧ a ≤ 100000) : wrap64 (n * a) = n * a := by
  have h := mul_bd hn ha
  generalize n * a = m at h ⊢
  unfold wrap64; omega

theorem times_calls (a b n : Int) (w : World) (hx : -100000 ≤ a ∧ a ≤ 100000 ∧ -100000 ≤ b ∧ b ≤ 100000) (hn : 0 ≤ n ∧ n ≤ 100) :
    Calls Try.prog 103 #[.agg #[.int .i64 a, .int .i64 b], .int .i64 n] w fun e w' => e = .returned (.agg #[.int .i64 (n * a), .int .i64 (n * b)]) ∧ Below w.heap.size w w' := by
  have e1 := wrap_mul hn ⟨hx.1, hx.2.1⟩
  have e2 := wrap_mul hn ⟨hx.2.2.1, hx.2.2.2⟩
  go_enter Try.func103, Try.ntmps103
  go_wp2
  exact bodyPost_ret (v := .agg #[.int .i64 (n * a), .int .i64 (n * b)]) (by simp [results, Try.results103, go_sem]) rfl ⟨rfl, by (repeat (first | assumption | exact Below.refl _ _ | refine bl_alloc ?_ _ | refine bl_drew ?_ | refine bl_drewN ?_ _))⟩

set_option maxHeartbeats 400000 in
theorem rise_calls (a b c d e f g h n : Int) (w : World) (hx : -1000 ≤ a ∧ a ≤ 1000 ∧ -1000 ≤ b ∧ b ≤ 1000 ∧ -1000 ≤ c ∧ c ≤ 1000 ∧ -1000 ≤ d ∧ d ≤ 1000) (hy : -1000 ≤ e ∧ e ≤ 1000 ∧ -1000 ≤ f ∧ f ≤ 1000 ∧ -1000 ≤ g ∧ g ≤ 1000 ∧ -1000 ≤ h ∧ h ≤ 1000) (hn : 0 ≤ n ∧ n ≤ 100) :
    Calls Try.prog 81 #[.agg #[.int .i64 a, .int .i64 b, .int .i64 c, .int .i64 d], .agg #[.int .i64 e, .int .i64 f, .int .i64 g, .int .i64 h], .int .i64 n] w fun ed w' => ed = .returned (.agg #[.int .i64 (n * g - (b + n * d)), .int .i64 (n * h - (a + n * c))]) ∧ Below w.heap.size w w' := by
  have m1 := mul_bd hn (a := c) (by omega)
  have m2 := mul_bd hn (a := d) (by omega)
  have m3 := mul_bd hn (a := g) (by omega)
  have m4 := mul_bd hn (a := h) (by omega)
  go_enter Try.func81, Try.ntmps81
  go_wp2
  generalize hW : ((w.alloc _).alloc _).alloc _ = W
  generalize h3_ : w.heap.size + 1 + 1 = g3
  generalize h2_ : w.heap.size + 1 = g2
  generalize h1_ : w.heap.size = g1
  obtain ⟨hB0_, Hg1, Hg2, Hg3, kg1, kg2, kg3, fg1, fg2, fg3, lg1, lg2, lg3, bg1, bg2, bg3, ng12, ng13, ng21, ng23, ng31, ng32⟩ := gen3 w _ _ _ _ _ _ hW h3_ h2_ h1_
  clear hW h1_ h2_ h3_
  have H0W := Lib.hid hB0_
  clear hB0_
  have HHg1 := Lib.hid Hg1
  have HHg2 := Lib.hid Hg2
  have HHg3 := Lib.hid Hg3
  clear Hg1 Hg2 Hg3
  have HB := Lib.hid (Below.refl W.heap.size W)
  go_region_held3 (fun w' => (∀ j, w'.cell? ⟨g1, j, none⟩ = #[Value.int IntKind.i64 a, Value.int IntKind.i64 b, Value.int IntKind.i64 c, Value.int IntKind.i64 d][j]?) ∧ (∀ j, w'.cell? ⟨g2, j, none⟩ = #[Value.int IntKind.i64 e, Value.int IntKind.i64 f, Value.int IntKind.i64 g, Value.int IntKind.i64 h][j]?))
    (first | exact ⟨fun j => (hq.1 _ j lg1).trans (kg1 j), fun j => (hq.1 _ j lg2).trans (kg2 j)⟩ | exact ⟨fun j => ((CB.of (bl_drew HB.out)).1 _ j lg1).trans (kg1 j), fun j => ((CB.of (bl_drew HB.out)).1 _ j lg2).trans (kg2 j)⟩ | exact ⟨fun j => ((CB.of (bl_alloc HB.out _)).1 _ j lg1).trans (kg1 j), fun j => ((CB.of (bl_alloc HB.out _)).1 _ j lg2).trans (kg2 j)⟩ | exact ⟨fun j => ((CB.of (bl_alloc (bl_alloc HB.out _) _)).1 _ j lg1).trans (kg1 j), fun j => ((CB.of (bl_alloc (bl_alloc HB.out _) _)).1 _ j lg2).trans (kg2 j)⟩ | go_keep)
    (first
      | (go_at_call 103; (with_reducible refine (times_calls _ _ _ _ (by omega) (by omega)).mono ?_); rintro e_ w1 ⟨rfl, hb_⟩; have HB_ := Lib.hid (bl_then2 (by (repeat (with_reducible first | exact HB.out | apply bl_alloc2 | apply bl_drew2 | apply bl_drewN2))) hb_); clear HB hb_; (try clear hq); have HB := HB_; clear HB_; have hq := CB.of HB.out)
      | (go_at_call 80; (with_reducible refine (plus_calls _ _ _ _ _ (by omega) (by omega)).mono ?_); rintro e_ w1 ⟨rfl, hb_⟩; have HB_ := Lib.hid (bl_then2 (by (repeat (with_reducible first | exact HB.out | apply bl_alloc2 | apply bl_drew2 | apply bl_drewN2))) hb_); clear HB hb_; (try clear hq); have HB := HB_; clear HB_; have hq := CB.of HB.out)
      | (go_at_call 102; (with_reducible refine (less_calls _ _ _ _ _ (by omega) (by omega)).mono ?_); rintro e_ w1 ⟨rfl, hb_⟩; have HB_ := Lib.hid (bl_then2 (by (repeat (with_reducible first | exact HB.out | apply bl_alloc2 | apply bl_drew2 | apply bl_drewN2))) hb_); clear HB hb_; (try clear hq); have HB := HB_; clear HB_; have hq := CB.of HB.out))
  go_wp2
  exact bodyPost_ret (v := .agg #[.int .i64 (n * g - (b + n * d)), .int .i64 (n * h - (a + n * c))]) (by simp [results, Try.results81, go_sem, hq, lg3, kg3]) rfl ⟨rfl, by (repeat (first | exact bl_then H0W.out HB.out | exact H0W.out | exact HB.out | exact Below.refl _ _ | refine bl_set ?_ (by assumption) _ | refine bl_alloc ?_ _ | refine bl_drew ?_ | refine bl_drewN ?_ _))⟩

def beatAt (a b c d e f g h : Int) (p : Nat) : Rg := ⟨e + (p * g - (b + p * d)), f + (p * h - (a + p * c))⟩
def beatsUp (a b c d e f g h : Int) (n : Nat) : List Rg := (List.range n).map (beatAt a b c d e f g h)
theorem beatsUp_succ (a b c d e f g h : Int) (n : Nat) : beatsUp a b c d e f g h (n + 1) = beatsUp a b c d e f g h n ++ [beatAt a b c d e f g h n] := by simp [beatsUp, List.range_succ]
theorem info26 : (Try.prog.info? 26).map (fun i => (i.zero, i.size, i.bytes)) = some (some (.agg #[.int .i64 0, .int .i64 0]), 2, 16) := by kernel_rfl

set_option maxRecDepth 100000 in
set_option maxHeartbeats 1000000 in
theorem beats_calls (l1 l2 l3 : Int) (P : Nat) (a b c d e f g h : Int) (w : World) (hx : -1000 ≤ a ∧ a ≤ 1000 ∧ -1000 ≤ b ∧ b ≤ 1000 ∧ -1000 ≤ c ∧ c ≤ 1000 ∧ -1000 ≤ d ∧ d ≤ 1000) (hy : -1000 ≤ e ∧ e ≤ 1000 ∧ -1000 ≤ f ∧ f ≤ 1000 ∧ -1000 ≤ g ∧ g ≤ 1000 ∧ -1000 ≤ h ∧ h ≤ 1000) (hP : P ≤ 90) :
    Calls Try.prog 37 #[.agg #[.int .i64 l1, .int .i64 l2, .int .i64 l3, .int .i64 P], .agg #[.int .i64 a, .int .i64 b, .int .i64 c, .int .i64 d], .agg #[.int .i64 e, .int .i64 f, .int .i64 g, .int .i64 h]] w fun ed w' =>
      ∃ v, ed = .returned v ∧ w'.ownsRow w.heap.size 26 2 v (P + 1) (flat Rg.cs (beatsUp a b c d e f g h (P + 1))) ∧ Below w.heap.size w w' := by
  go_enter Try.func37, Try.ntmps37
  go_wp2
  generalize hW : ((w.alloc _).alloc _).alloc _ = W
  generalize h3_ : w.heap.size + 1 + 1 = g3
  generalize h2_ : w.heap.size + 1 = g2
  generalize h1_ : w.heap.size = g1
  obtain ⟨hB0_, Hg1, Hg2, Hg3, kg1, kg2, kg3, fg1, fg2, fg3, lg1, lg2, lg3, bg1, bg2, bg3, ng12, ng13, ng21, ng23, ng31, ng32⟩ := gen3 w _ _ _ _ _ _ hW h3_ h2_ h1_
  clear hW h1_ h2_ h3_
  have H0W := Lib.hid hB0_
  clear hB0_
  have HHg1 := Lib.hid Hg1
  have HHg2 := Lib.hid Hg2
  have HHg3 := Lib.hid Hg3
  clear Hg1 Hg2 Hg3
  obtain ⟨i0, hi, hz0, hz1, hz2⟩ := info_parts info26
  have HZ := Lib.hid (And.intro hi (And.intro hz0 (And.intro hz1 hz2)))
  clear hi hz0 hz1 hz2
  go_loopw [7, 12] (fun v i wr => ∃ k : Nat, k ≤ P + 1 ∧ i = .int .i64 k ∧ wr.ownsRow W.heap.size 26 2 v k (flat Rg.cs (beatsUp a b c d e f g h k)) ∧ Below W.heap.size W wr)
    (fun v i _ => P + 1 - (intOf i).toNat)
  case atStart => exact ⟨0, Nat.zero_le _, rfl, own_nil _ _ _ _, Below.refl _ _⟩
  case round =>
    obtain ⟨k, hk, rfl, hown, hb⟩ := hrel
    have HO := Lib.hid hown
    have HB := Lib.hid hb
    clear hown hb
    have hq := CB.of HB.out
    by_cases hlt : k < P + 1
    · have hlt' : decide ((k : Int) < (P : Int) + 1) = true := by simp; omega
      go_wp2
      have m1 := mul_bd (n := k) (by omega) (a := c) (by omega)
      have m2 := mul_bd (n := k) (by omega) (a := d) (by omega)
      have m3 := mul_bd (n := k) (by omega) (a := g) (by omega)
      have m4 := mul_bd (n := k) (by omega) (a := h) (by omega)
      go_region_held3 (fun w' => (∀ j, w'.cell? ⟨g2, j, none⟩ = #[Value.int IntKind.i64 a, Value.int IntKind.i64 b, Value.int IntKind.i64 c, Value.int IntKind.i64 d][j]?) ∧ (∀ j, w'.cell? ⟨g3, j, none⟩ = #[Value.int IntKind.i64 e, Value.int IntKind.i64 f, Value.int IntKind.i64 g, Value.int IntKind.i64 h][j]?))
        (first | exact ⟨fun j => (hq.1 _ j lg2).trans (kg2 j), fun j => (hq.1 _ j lg3).trans (kg3 j)⟩ | exact ⟨fun j => ((CB.of (bl_drew HB.out)).1 _ j lg2).trans (kg2 j), fun j => ((CB.of (bl_drew HB.out)).1 _ j lg3).trans (kg3 j)⟩ | exact ⟨fun j => ((CB.of (bl_alloc HB.out _)).1 _ j lg2).trans (kg2 j), fun j => ((CB.of (bl_alloc HB.out _)).1 _ j lg3).trans (kg3 j)⟩ | exact ⟨fun j => ((CB.of (bl_alloc (bl_alloc HB.out _) _)).1 _ j lg2).trans (kg2 j), fun j => ((CB.of (bl_alloc (bl_alloc HB.out _) _)).1 _ j lg3).trans (kg3 j)⟩ | go_keep)
        (first
          | (go_at_call 81; (with_reducible refine (rise_calls _ _ _ _ _ _ _ _ _ _ (by omega) (by omega) (by omega)).mono ?_); rintro e_ w1 ⟨rfl, hb_⟩; (first | have HO_ := Lib.hid (own_below HO.out hb_) | have HO_ := Lib.hid (own_below_d HO.out hb_)); clear HO; have HO := HO_; clear HO_; have HB_ := Lib.hid (bl_then2 (by (repeat (with_reducible first | exact HB.out | apply bl_alloc2 | apply bl_drew2 | apply bl_drewN2))) hb_); clear HB hb_; (try clear hq); have HB := HB_; clear HB_; have hq := CB.of HB.out)
          | (go_at_call 80; (with_reducible refine (plus_calls _ _ _ _ _ (by omega) (by omega)).mono ?_); rintro e_ w1 ⟨rfl, hb_⟩; (first | have HO_ := Lib.hid (own_below HO.out hb_) | have HO_ := Lib.hid (own_below_d HO.out hb_)); clear HO; have HO := HO_; clear HO_; have HB_ := Lib.hid (bl_then2 (by (repeat (with_reducible first | exact HB.out | apply bl_alloc2 | apply bl_drew2 | apply bl_drewN2))) hb_); clear HB hb_; (try clear hq); have HB := HB_; clear HB_; have hq := CB.of HB.out)
          | (refine app_gate 34 rfl ?_; refine step_append_lies _ (by rfl) _ _ _ (by rfl) W.heap.size 26 i0 _ 2 16 Try.underlying34 HZ.out.1 HZ.out.2.1 HZ.out.2.2.1 HZ.out.2.2.2 rfl (by decide) _ k _ (by rfl) (HO.out.alloc _) ⟨w1.heap.size, 0, none⟩ 1 1 (Rg.cs (beatAt a b c d e f g h k)) (by rfl) (by rfl) (World.news_of_block (cs := #[.int .i64 (e + (k * g - (b + k * d))), .int .i64 (f + (k * h - (a + k * c)))]) (t := 26) (fr := (0, 0)) (heap_alloc_new _ _)) ?a1 (by decide) ?a2 ?a3 ?a4 (w1.heap.size + 1) ?a5 ?_
             (case a1 => simp [Value.oneCell', Rg.cs])
             (case a2 => unfold maxLen; omega)
             (case a3 => omega)
             (case a4 => have := HB.out.size; simp; omega)
             (case a5 => simp)
             intro gg cap w2 hown2 hgrow hat hlt2
             have HB_ := Lib.hid (bl_grown (bl_alloc HB.out _) (bl_alloc HB.out _).size hgrow (fun q hq_ => (HO.out.lt q hq_).1)); clear HB hq; have HB := HB_; clear HB_; have hq := CB.of HB.out))
      go_wp2
      go_roundw
      case rel => exact ⟨k + 1, by omega, by go_num, by rw [beatsUp_succ, flat_snoc]; exact hown2, HB.out⟩
      case measure => simp [intOf]; omega
    · have hlt' : decide ((k : Int) < (P : Int) + 1) = false := by simp; omega
      go_wp2
      go_ret
      obtain rfl : k = P + 1 := by omega
      exact ⟨_, rfl, own_weaken HO.out (by have := H0W.out.size; omega), by (repeat (first | exact bl_then H0W.out HB.out | exact H0W.out | exact HB.out | exact Below.refl _ _ | refine bl_set ?_ (by assumption) _ | refine bl_alloc ?_ _ | refine bl_drew ?_ | refine bl_drewN ?_ _))⟩

end Go.Proofs.Ytnclljamcfoolaa
