/- Walks of package meter: the beats and the order of two tongues of an ear without readings. -/
import Derived.Test.YtnclljamcfoolaaKnown
namespace Go.Proofs.Ytnclljamcfoolaa
open Go.RowKit
set_option linter.unusedVariables false

/-- the tone of tongue i -/
def T3.get (t : T3) (i : Int) : Int := if i = 0 then t.a else if i = 1 then t.b else t.c
def T3.Ok (t : T3) : Prop := (0 ≤ t.a ∧ t.a ≤ 100000) ∧ (0 ≤ t.b ∧ t.b ≤ 100000) ∧ (0 ≤ t.c ∧ t.c ≤ 100000)
theorem T3.Ok.get {t : T3} (h : t.Ok) (i : Int) : 0 ≤ t.get i ∧ t.get i ≤ 100000 := by
  unfold T3.get; (repeat' split) <;> first | exact h.1 | exact h.2.1 | exact h.2.2
def T3.apart (t : T3) (a b : Int) : Int := max (t.get a - t.get b) (t.get b - t.get a)

set_option maxHeartbeats 1000000 in
theorem apart01 (t : T3) (ht : t.Ok) (w : World) :
    Calls Try.prog 46 #[t.v, .int .i64 0, .int .i64 1] w fun e w' => e = .returned (.int .i64 (t.apart 0 1)) ∧ Below w.heap.size w w' := by
  obtain ⟨h1, h2, h3⟩ := ht
  go_enter Try.func46, Try.ntmps46
  go_wp2_with fail
  go_quiet (fail)
  go_wp2
  all_goals (go_ret; refine ⟨ret_int ?_, by (repeat (first | assumption | exact Below.refl _ _ | refine bl_alloc ?_ _ | refine bl_drew ?_ | refine bl_drewN ?_ _))⟩; go_tidy; simp [T3.apart, T3.get]; omega)

theorem apart_bd {t : T3} (ht : t.Ok) (a b : Int) : 0 ≤ t.apart a b ∧ t.apart a b ≤ 100000 := by
  have h1 := ht.get a
  have h2 := ht.get b
  unfold T3.apart; omega

set_option maxHeartbeats 1000000 in
theorem beats45 (t : T3) (ht : t.Ok) (B1 B2 B3 : Nat) (s : Int) (hs : 1 ≤ s ∧ s ≤ 20) (w : World) (h1 : w.cell? ⟨B1, 0, none⟩ = some (.int .i64 0)) (h2 : w.cell? ⟨B2, 0, none⟩ = some (.int .i64 1)) (h3 : w.cell? ⟨B3, 0, none⟩ = some (.int .i64 s)) :
    Calls Try.prog 45 #[t.v, .pointer (some ⟨B1, 0, none⟩), .pointer (some ⟨B2, 0, none⟩), .pointer (some ⟨B3, 0, none⟩)] w fun e w' => e = .returned (.int .i64 (t.apart 0 1 * s / 100)) ∧ Below w.heap.size w w' := by
  have hb := apart_bd ht 0 1
  have hm : 0 ≤ t.apart 0 1 * s ∧ t.apart 0 1 * s ≤ 2000000 := by
    constructor
    · exact Int.mul_nonneg hb.1 (by omega)
    · have := Int.mul_le_mul hb.2 hs.2 (by omega) (by omega); omega
  have hw : IntKind.i64.wrap (t.apart 0 1 * s) = t.apart 0 1 * s := IntWalk.i64_in _ (by omega)
  have l1 := World.block_lt_of_cell? w _ h1
  have l2 := World.block_lt_of_cell? w _ h2
  have l3 := World.block_lt_of_cell? w _ h3
  go_enter Try.func45, Try.ntmps45
  go_upto_region 1 with (fail)
  generalize hW : w.alloc _ = W
  generalize h1_ : w.heap.size = g1
  obtain ⟨hB0_, Hg1, kg1, fg1, lg1, bg1⟩ := gen1 w _ _ hW h1_
  clear hW h1_
  have H0W := Lib.hid hB0_
  clear hB0_
  have HHg1 := Lib.hid Hg1
  clear Hg1
  have HB := Lib.hid (Below.refl W.heap.size W)
  have hq0 := CB.of H0W.out
  have e1 := (hq0.1 _ 0 l1).trans h1
  have e2 := (hq0.1 _ 0 l2).trans h2
  have e3 := (hq0.1 _ 0 l3).trans h3
  have m1 := World.block_lt_of_cell? W _ e1
  have m2 := World.block_lt_of_cell? W _ e2
  have m3 := World.block_lt_of_cell? W _ e3
  clear hq0 h1 h2 h3 l1 l2 l3
  go_region_held3 (fun w' => (∀ j, w'.cell? ⟨g1, j, none⟩ = #[Value.int IntKind.i64 t.a, Value.int IntKind.i64 t.b, Value.int IntKind.i64 t.c][j]?) ∧ w'.cell? ⟨B1, 0, none⟩ = some (.int .i64 0) ∧ w'.cell? ⟨B2, 0, none⟩ = some (.int .i64 1) ∧ w'.cell? ⟨B3, 0, none⟩ = some (.int .i64 s))
    (first | exact ⟨fun j => (hq.1 _ j lg1).trans (kg1 j), (hq.1 _ _ m1).trans e1, (hq.1 _ _ m2).trans e2, (hq.1 _ _ m3).trans e3⟩ | exact ⟨fun j => ((CB.of (bl_drew HB.out)).1 _ j lg1).trans (kg1 j), ((CB.of (bl_drew HB.out)).1 _ _ m1).trans e1, ((CB.of (bl_drew HB.out)).1 _ _ m2).trans e2, ((CB.of (bl_drew HB.out)).1 _ _ m3).trans e3⟩ | exact ⟨fun j => ((CB.of (bl_alloc HB.out _)).1 _ j lg1).trans (kg1 j), ((CB.of (bl_alloc HB.out _)).1 _ _ m1).trans e1, ((CB.of (bl_alloc HB.out _)).1 _ _ m2).trans e2, ((CB.of (bl_alloc HB.out _)).1 _ _ m3).trans e3⟩ | exact ⟨fun j => ((CB.of (bl_alloc (bl_alloc HB.out _) _)).1 _ j lg1).trans (kg1 j), ((CB.of (bl_alloc (bl_alloc HB.out _) _)).1 _ _ m1).trans e1, ((CB.of (bl_alloc (bl_alloc HB.out _) _)).1 _ _ m2).trans e2, ((CB.of (bl_alloc (bl_alloc HB.out _) _)).1 _ _ m3).trans e3⟩ | go_keep)
    (first | (go_at_call 46; (with_reducible refine (apart01 t ht _).mono ?_); rintro e_ w1 ⟨rfl, hb_⟩; have HB_ := Lib.hid (bl_then2 (by (repeat (with_reducible first | exact HB.out | apply bl_alloc2 | apply bl_drew2 | apply bl_drewN2))) hb_); clear HB hb_; (try clear hq); have HB := HB_; clear HB_; have hq := CB.of HB.out))
  go_wp2
  go_ret
  exact ⟨ret_int (by go_tidy; rw [Int.tdiv_eq_ediv_of_nonneg hm.1]; exact IntWalk.i64_in _ (by omega)), by (repeat (first | exact bl_then H0W.out HB.out | exact H0W.out | exact HB.out | exact Below.refl _ _ | refine bl_set ?_ (by assumption) _ | refine bl_alloc ?_ _ | refine bl_drew ?_ | refine bl_drewN ?_ _))⟩

set_option maxHeartbeats 1000000 in
theorem higher48 (t : T3) (B1 B2 : Nat) (w : World) (h1 : w.cell? ⟨B1, 0, none⟩ = some (.int .i64 1)) (h2 : w.cell? ⟨B2, 0, none⟩ = some (.int .i64 0)) :
    Calls Try.prog 48 #[t.v, .pointer (some ⟨B1, 0, none⟩), .pointer (some ⟨B2, 0, none⟩)] w fun e w' => e = .returned (.bool (decide (t.a < t.b))) ∧ Below w.heap.size w w' := by
  have l1 := World.block_lt_of_cell? w _ h1
  have l2 := World.block_lt_of_cell? w _ h2
  go_enter Try.func48, Try.ntmps48
  go_upto_region 1 with (fail)
  generalize hW : w.alloc _ = W
  generalize h1_ : w.heap.size = g1
  obtain ⟨hB0_, Hg1, kg1, fg1, lg1, bg1⟩ := gen1 w _ _ hW h1_
  clear hW h1_
  have H0W := Lib.hid hB0_
  clear hB0_
  have HHg1 := Lib.hid Hg1
  clear Hg1
  have hq0 := CB.of H0W.out
  have e1 := (hq0.1 _ 0 l1).trans h1
  have e2 := (hq0.1 _ 0 l2).trans h2
  clear hq0 h1 h2 l1 l2
  go_quiet (fail)
  go_wp2
  go_ret
  exact ⟨rfl, by (repeat (first | exact bl_then H0W.out HB.out | exact H0W.out | exact HB.out | exact Below.refl _ _ | refine bl_set ?_ (by assumption) _ | refine bl_alloc ?_ _ | refine bl_drew ?_ | refine bl_drewN ?_ _))⟩

def twoErr (n a b : Int) : Int := if inB a 0 (n - 1) = false then 3 else if inB b 0 (n - 1) = false then 3 else if a = b then 4 else 0
theorem two_calls (s : Int) (A1 : Option Addr) (n c1 : Nat) (v : Value) (a b : Int) (hn : n ≤ 1000000) (w : World) (hv : ∃ A m c, v = .slice A m c) :
    Calls Try.prog 41 #[.agg #[.int .i64 s, .slice A1 n c1, v], .int .i64 a, .int .i64 b] w fun e w' => e = .returned (.int .i64 (twoErr n a b)) ∧ Below w.heap.size w w' := by
  obtain ⟨A, m, c, rfl⟩ := hv
  go_enter Try.func41, Try.ntmps41
  go_wp2_with (go_at_call 42; (with_reducible refine (in_calls _ _ _ _).mono ?_); rintro e_ w1 ⟨rfl, rfl⟩)
  all_goals (go_ret; refine ⟨ret_int ?_, by (repeat (first | assumption | exact Below.refl _ _ | refine bl_alloc ?_ _ | refine bl_drew ?_ | refine bl_drewN ?_ _))⟩; go_tidy; unfold twoErr; simp_all)

theorem allTruths_pos {e : Ear} (h : earErr e = 0) : 0 < (allTruths (fun _ => true) e).length := by
  obtain ⟨h1, h2, h3⟩ := earErr_zero h
  have key : ∀ (l : List Rg) (i : Nat) (t : T3), (∀ x ∈ l, x.mn ≤ x.mx) → 0 < (truthsFrom (fun _ => true) l i t).length := by
    intro l
    induction l with
    | nil => intro i t _; simp [truthsFrom]
    | cons x l ih =>
      intro i t hx
      have hx0 := hx x (by simp)
      have h0 := ih (i + 1) (t.set i x.mn) (fun y hy => hx y (by simp [hy]))
      obtain ⟨k, hk⟩ : ∃ k, (x.mx - x.mn + 1).toNat = k + 1 := ⟨(x.mx - x.mn).toNat, by omega⟩
      simp only [truthsFrom, upto, hk, List.range_succ_eq_map, List.map_cons, List.flatMap_cons, List.length_append]
      simp only [Int.natCast_zero, Int.add_zero]
      omega
  exact key _ _ _ (fun x hx => (h3 x hx).2.2.2.2.1)

theorem row_slice {w : World} {base e size n : Nat} {v : Value} {xs : List Value} (h : w.ownsRow base e size v n xs) (hn : 0 < n) : ∃ g cap, v = .slice (some ⟨g, 0, none⟩) n cap := by
  rcases h.2 with ⟨_, h2⟩ | ⟨g, cap, _, h3, _⟩
  · omega
  · exact ⟨g, cap, h3⟩
theorem size41 : (Try.prog.info? 41).map (·.size) = some 3 := by kernel_rfl

set_option maxRecDepth 100000 in
set_option maxHeartbeats 1000000 in
theorem known_calls (e : Ear) (b o c1 : Nat) (A2 : Option Addr) (c2 : Nat) (he : earErr e = 0) (hr : e.reads = []) (w : World) (h1 : Row Rg.cs 2 w (some ⟨b, o, none⟩) e.tones) (hb : b < w.heap.size) :
    Calls Try.prog 71 #[.agg #[.int .i64 e.slack, .slice (some ⟨b, o, none⟩) e.tones.length c1, .slice A2 0 c2]] w fun ed w' => ∃ v, ed = .returned (.tuple #[v, .int .i64 0]) ∧ w'.ownsRow w.heap.size 93 3 v (allTruths (fun _ => true) e).length (flat T3.cs (allTruths (fun _ => true) e)) ∧ Below w.heap.size w w' := by
  have hC := Lib.hid (meterCheck_calls e (some ⟨b, o, none⟩) A2 c1 c2)
  rw [hr, he] at hC
  have hz := earErr_zero he
  have hpos := allTruths_pos he
  go_enter Try.func71, Try.ntmps71
  go_upto_region 1 with (fail)
  generalize hW : w.alloc _ = W
  generalize h1_ : w.heap.size = g1
  obtain ⟨hB0_, Hg1, kg1, fg1, lg1, bg1⟩ := gen1 w _ _ hW h1_
  clear hW h1_
  have H0W := Lib.hid hB0_
  clear hB0_
  have HHg1 := Lib.hid Hg1
  clear Hg1
  have HB := Lib.hid (Below.refl W.heap.size W)
  have HR := Lib.hid (h1.below H0W.out)
  have hbW : b < W.heap.size := Nat.lt_of_lt_of_le hb H0W.out.size
  clear h1
  go_wp2_with (first
    | ((with_reducible refine ld_gate 41 rfl ?_); refine wpList_load_row rfl 41 _ rfl g1 rfl 41 _ (0, 0) _ ((HB.out.block _ lg1).trans HHg1.out) Try.underlying41 rfl size41 ?_)
    | (go_at_call 49; refine (hC.out _ (HR.out.below HB.out) (.inl rfl) (by omega) (by simp)).mono ?_; rintro e_ w1 ⟨rfl, hb_⟩; have HB_ := Lib.hid (bl_then2 (by (repeat (with_reducible first | exact HB.out | apply bl_alloc2 | apply bl_drew2 | apply bl_drewN2))) hb_); clear HB hb_; (try clear hq); have HB := HB_; clear HB_; have hq := CB.of HB.out)
    | (go_at_call 82; refine (truths_calls e b o c1 A2 c2 _ (HR.out.below HB.out) (Nat.lt_of_lt_of_le hbW HB.out.size)).mono ?_; rintro e_ w1 ⟨be, bl, rfl, hF, hb_⟩; have HF := Lib.hid hF; clear hF; have HB_ := Lib.hid (bl_then2 (by (repeat (with_reducible first | exact HB.out | apply bl_alloc2 | apply bl_drew2 | apply bl_drewN2))) hb_); clear HB hb_; (try clear hq); have HB := HB_; clear HB_; have hq := CB.of HB.out)
    | (go_at_call 95; refine (collect_calls e c1 A2 0 c2 _ _ b o he _ HF.out).mono ?_; rintro e_ w1 ⟨v, rfl, hr, hb_⟩; obtain ⟨gq, capq, hvq⟩ := row_slice hr hpos; subst hvq; have HO := Lib.hid hr; have hsz := HB.out.size; clear hr; have HB_ := Lib.hid (bl_then2 (by (repeat (with_reducible first | exact HB.out | apply bl_alloc2 | apply bl_drew2 | apply bl_drewN2))) hb_); clear HB hb_; (try clear hq); have HB := HB_; clear HB_; have hq := CB.of HB.out))
  go_ret2
  exact ⟨_, rfl, own_weaken HO.out (Nat.le_trans H0W.out.size hsz), by (repeat (first | exact bl_then H0W.out HB.out | exact H0W.out | exact HB.out | exact Below.refl _ _ | refine bl_set ?_ (by assumption) _ | refine bl_alloc ?_ _ | refine bl_drew ?_ | refine bl_drewN ?_ _))⟩

set_option maxRecDepth 100000 in
set_option maxHeartbeats 1000000 in
theorem ask_calls (e : Ear) (b o c1 : Nat) (A2 : Option Addr) (c2 : Nat) (he : earErr e = 0) (hr : e.reads = []) (w : World) (h1 : Row Rg.cs 2 w (some ⟨b, o, none⟩) e.tones) (hb : b < w.heap.size) :
    Calls Try.prog 43 #[.agg #[.int .i64 e.slack, .slice (some ⟨b, o, none⟩) e.tones.length c1, .slice A2 0 c2], .int .i64 0] w fun ed w' => ∃ v, ed = .returned (.tuple #[v, .int .i64 0]) ∧ w'.ownsRow w.heap.size 93 3 v (allTruths (fun _ => true) e).length (flat T3.cs (allTruths (fun _ => true) e)) ∧ Below w.heap.size w w' := by
  have hC := Lib.hid (meterCheck_calls e (some ⟨b, o, none⟩) A2 c1 c2)
  rw [hr, he] at hC
  have hz := earErr_zero he
  go_enter Try.func43, Try.ntmps43
  go_upto_region 1 with (fail)
  generalize hW : w.alloc _ = W
  generalize h1_ : w.heap.size = g1
  obtain ⟨hB0_, Hg1, kg1, fg1, lg1, bg1⟩ := gen1 w _ _ hW h1_
  clear hW h1_
  have H0W := Lib.hid hB0_
  clear hB0_
  have HHg1 := Lib.hid Hg1
  clear Hg1
  have HB := Lib.hid (Below.refl W.heap.size W)
  have HR := Lib.hid (h1.below H0W.out)
  have hbW : b < W.heap.size := Nat.lt_of_lt_of_le hb H0W.out.size
  clear h1
  go_wp2_with (first
    | ((with_reducible refine ld_gate 41 rfl ?_); refine wpList_load_row rfl 41 _ rfl g1 rfl 41 _ (0, 0) _ ((HB.out.block _ lg1).trans HHg1.out) Try.underlying41 rfl size41 ?_)
    | (go_at_call 49; refine (hC.out _ (HR.out.below HB.out) (.inl rfl) (by omega) (by simp)).mono ?_; rintro e_ w1 ⟨rfl, hb_⟩; have HB_ := Lib.hid (bl_then2 (by (repeat (with_reducible first | exact HB.out | apply bl_alloc2 | apply bl_drew2 | apply bl_drewN2))) hb_); clear HB hb_; (try clear hq); have HB := HB_; clear HB_; have hq := CB.of HB.out)
    | (go_at_call 71; refine (known_calls e b o c1 A2 c2 he hr _ (HR.out.below HB.out) (Nat.lt_of_lt_of_le hbW HB.out.size)).mono ?_; rintro e_ w1 ⟨v, rfl, hr_, hb_⟩; have HO := Lib.hid hr_; have hsz := HB.out.size; clear hr_; have HB_ := Lib.hid (bl_then2 (by (repeat (with_reducible first | exact HB.out | apply bl_alloc2 | apply bl_drew2 | apply bl_drewN2))) hb_); clear HB hb_; (try clear hq); have HB := HB_; clear HB_; have hq := CB.of HB.out))
  go_ret2
  exact ⟨_, rfl, own_weaken HO.out (Nat.le_trans H0W.out.size hsz), by (repeat (first | exact bl_then H0W.out HB.out | exact H0W.out | exact HB.out | exact Below.refl _ _ | refine bl_set ?_ (by assumption) _ | refine bl_alloc ?_ _ | refine bl_drew ?_ | refine bl_drewN ?_ _))⟩

end Go.Proofs.Ytnclljamcfoolaa
