/- Walk of meter.Beats and meter.Higher at the first two tongues. Walk of meter.Higher at tongues 1, 0. The plain law of beats: what all truths of two tones say of their beats. The plain law of counts: a count more only narrows what is known of a tone. Walk of musettekit.SameRanges. Walks of package voice: the checks of a box, the beat of a pair. Walk of package voice: a job without pitch. Walks of package voice: the checks of a box, the beat of a pair. Walk of musettetop.beatsAwake: the examples. -/
import Derived.Test.YtnclljamcfoolaaHd3
import Derived.Laws.ResultCell
import Derived.Laws.EntriesVeiled
import Derived.Test.YtnclljamcfoolaaHd6
import Derived.Test.YtnclljamcfoolaaHd9
import Derived.Test.YtnclljamcfoolaaHd7
import Derived.RegionTactic
import Derived.BigRegion
namespace Go.Proofs.Ytnclljamcfoolaa
open Go.RowKit
set_option linter.unusedVariables false
set_option linter.unusedSimpArgs false

/-- a struct that lies in the first result's block, and a second result -/
theorem ret_row_tmp {P : Program} {fn : Func} {R : Ending → World → Prop} {a : Act} {w : World} {p u : Tmp} {ty : TypeId} (h : fn.results = #[.cell p ty, .tmp u]) (g : Nat) (t : TypeId) (cs : Array Value) (d : TypeDesc)
    (hp : a.tmps.getD p undef = .pointer (some ⟨g, 0, none⟩)) (hg : w.heap[g]? = some (.cells cs t (0, 0))) (hu : P.underlying ty = some d) (hd : (match d with | .struct _ | .array _ _ => true | _ => false) = true) (hi : (P.info? ty).map (·.size) = some cs.size)
    (hdf : a.defers = []) (hR : R (.returned (.tuple #[.agg cs, a.tmps.getD u undef])) w) : bodyPost P fn R .ret a w := by
  refine bodyPost_ret ?_ hdf hR
  rw [results_cell_tmp h, hp]
  simp [asAddr, Result.andThen, run_loadVar_row w g t ty cs (0, 0) d hg hu hd hi]
set_option maxRecDepth 100000 in
set_option maxHeartbeats 1000000 in
theorem Beats01 (e : Ear) (b o c1 : Nat) (A2 : Option Addr) (c2 : Nat) (s : Int) (hs : 1 ≤ s ∧ s ≤ 20) (he : earErr e = 0) (hr : e.reads = []) (hn : 2 ≤ e.tones.length) (hn9 : e.tones.length ≤ 1000000) (hok : ∀ t ∈ allTruths (fun _ => true) e, t.Ok) (hlen : (allTruths (fun _ => true) e).length ≤ 1000000) (w : World) (h1 : Row Rg.cs 2 w (some ⟨b, o, none⟩) e.tones) (hb : b < w.heap.size) :
    Calls Try.prog 10 #[.agg #[.int .i64 e.slack, .slice (some ⟨b, o, none⟩) e.tones.length c1, .slice A2 0 c2], .int .i64 0, .int .i64 1, .int .i64 s] w fun ed w' => ed = .returned (.tuple #[.agg #[.int .i64 (mnOf (tbOf s) (allTruths (fun _ => true) e) (tbOf s ((allTruths (fun _ => true) e)[0]'(allTruths_pos he)))), .int .i64 (mxOf (tbOf s) (allTruths (fun _ => true) e) (tbOf s ((allTruths (fun _ => true) e)[0]'(allTruths_pos he))))], .int .i64 0]) ∧ Below w.heap.size w w' := by
  have h2 : twoErr e.tones.length 0 1 = 0 := by unfold twoErr; simp [inB_false]; omega
  have hT := Lib.hid (fun v w hv => two_calls e.slack (some ⟨b, o, none⟩) e.tones.length c1 v 0 1 hn9 w hv)
  rw [h2] at hT
  have hpos := allTruths_pos he
  have hin : inB s 1 20 = true := by simp [inB]; omega
  go_enter Try.func10, Try.ntmps10
  go_upto_region 1 with (fail)
  generalize hW : ((((w.alloc _).alloc _).alloc _).alloc _).alloc _ = W
  generalize h5_ : w.heap.size + 1 + 1 + 1 + 1 = g5
  generalize h4_ : w.heap.size + 1 + 1 + 1 = g4
  generalize h3_ : w.heap.size + 1 + 1 = g3
  generalize h2_ : w.heap.size + 1 = g2
  generalize h1_ : w.heap.size = g1
  obtain ⟨hB0_, Hg1, Hg2, Hg3, Hg4, Hg5, kg1, kg2, kg3, kg4, kg5, fg1, fg2, fg3, fg4, fg5, lg1, lg2, lg3, lg4, lg5, bg1, bg2, bg3, bg4, bg5, ng12, ng13, ng14, ng15, ng21, ng23, ng24, ng25, ng31, ng32, ng34, ng35, ng41, ng42, ng43, ng45, ng51, ng52, ng53, ng54⟩ := gen5 w _ _ _ _ _ _ _ _ _ _ hW h5_ h4_ h3_ h2_ h1_
  clear hW h1_ h2_ h3_ h4_ h5_
  have H0W := Lib.hid hB0_
  clear hB0_
  have HHg1 := Lib.hid Hg1
  have HHg2 := Lib.hid Hg2
  have HHg3 := Lib.hid Hg3
  have HHg4 := Lib.hid Hg4
  have HHg5 := Lib.hid Hg5
  clear Hg1 Hg2 Hg3 Hg4 Hg5
  have HB := Lib.hid (Below.refl W.heap.size W)
  have HR := Lib.hid (h1.below H0W.out)
  have hbW : b < W.heap.size := Nat.lt_of_lt_of_le hb H0W.out.size
  clear h1
  have hv : ∃ A m c, Value.slice A2 0 c2 = .slice A m c := ⟨_, _, _, rfl⟩
  go_upto_region 2 with (first
    | ((with_reducible refine ld_gate 41 rfl ?_); refine wpList_load_row rfl 41 _ rfl g1 rfl 41 _ (0, 0) _ ((HB.out.block _ lg1).trans HHg1.out) Try.underlying41 rfl size41 ?_)
    | (go_at_call 41; with_reducible refine (hT.out _ _ hv).mono ?_; rintro e_ w1 ⟨rfl, hb_⟩; have HB_ := Lib.hid (bl_then2 (by (repeat (with_reducible first | exact HB.out | apply bl_alloc2 | apply bl_drew2 | apply bl_drewN2))) hb_); clear HB hb_; (try clear hq); have HB := HB_; clear HB_; have hq := CB.of HB.out))
  go_upto_region 4 with (first | (go_at_call 42; (with_reducible refine (in_calls _ _ _ _).mono ?_); rintro e_ w2 ⟨rfl, rfl⟩; rw [hin]))
  go_upto_region 7 with (first
    | ((with_reducible refine ld_gate 41 rfl ?_); refine wpList_load_row rfl 41 _ rfl g1 rfl 41 _ (0, 0) _ ((HB.out.block _ lg1).trans HHg1.out) Try.underlying41 rfl size41 ?_)
    | (go_at_call 43; refine (ask_calls e b o c1 A2 c2 he hr _ (HR.out.below HB.out) (Nat.lt_of_lt_of_le hbW HB.out.size)).mono ?_; rintro e_ w1 ⟨v, rfl, hr_, hb_⟩; obtain ⟨gq, capq, hvq⟩ := row_slice hr_ hpos; subst hvq; have HO := Lib.hid hr_; have hsz := HB.out.size; clear hr_; have HB_ := Lib.hid (bl_then2 (by (repeat (with_reducible first | exact HB.out | apply bl_alloc2 | apply bl_drew2 | apply bl_drewN2))) hb_); clear HB hb_; (try clear hq); have HB := HB_; clear HB_; have hq := CB.of HB.out))
  have hR := Lib.hid (span45 (allTruths (fun _ => true) e) hok gq capq g2 g3 g4 s hs hlen hpos)
  go_wp2_with (first
    | (go_at_call 44; refine (hR.out _ (row_of_own (enc := T3.cs) (sz := 3) (fun _ => rfl) HO.out) ((hq.1 _ 0 lg2).trans (kg2 0)) ((hq.1 _ 0 lg3).trans (kg3 0)) ((hq.1 _ 0 lg4).trans (kg4 0))).mono ?_; rintro e_ w1 ⟨rfl, hb_⟩; have HB_ := Lib.hid (bl_then2 (by (repeat (with_reducible first | exact HB.out | apply bl_alloc2 | apply bl_drew2 | apply bl_drewN2))) hb_); clear HB hb_; (try clear hq); have HB := HB_; clear HB_; have hq := CB.of HB.out)
    | ((with_reducible refine st_gate 26 rfl ?_); refine wpList_store_row rfl 26 _ _ rfl g5 _ rfl rfl 26 _ ((HB.out.block _ lg5).trans HHg5.out) size26m (by simp) (by simp [Value.oneCell']) ?_))
  exact ret_row_tmp rfl g5 26 _ _ rfl (setRow_heap ((HB.out.block _ lg5).trans HHg5.out)) Try.underlying26 rfl size26m rfl ⟨rfl, bl_setRow (bl_then H0W.out HB.out) bg5 _⟩

end Go.Proofs.Ytnclljamcfoolaa
namespace Go.Proofs.Ytnclljamcfoolaa
open Go.RowKit
set_option linter.unusedVariables false
set_option linter.unusedSimpArgs false

set_option maxRecDepth 100000 in
set_option maxHeartbeats 1000000 in
theorem Higher10 (e : Ear) (b o c1 : Nat) (A2 : Option Addr) (c2 : Nat) (he : earErr e = 0) (hr : e.reads = []) (hn : 2 ≤ e.tones.length) (hn9 : e.tones.length ≤ 1000000) (hlen : (allTruths (fun _ => true) e).length ≤ 1000000) (w : World) (h1 : Row Rg.cs 2 w (some ⟨b, o, none⟩) e.tones) (hb : b < w.heap.size) :
    Calls Try.prog 11 #[.agg #[.int .i64 e.slack, .slice (some ⟨b, o, none⟩) e.tones.length c1, .slice A2 0 c2], .int .i64 1, .int .i64 0] w fun ed w' => ed = .returned (.tuple #[.int .i64 (verdictOf (countP (fun t => decide (t.a < t.b)) (allTruths (fun _ => true) e)) (allTruths (fun _ => true) e).length), .int .i64 0]) ∧ Below w.heap.size w w' := by
  have h2 : twoErr e.tones.length 1 0 = 0 := by unfold twoErr; simp [inB_false]; omega
  have hT := Lib.hid (fun v w hv => two_calls e.slack (some ⟨b, o, none⟩) e.tones.length c1 v 1 0 hn9 w hv)
  rw [h2] at hT
  have hpos := allTruths_pos he
  have hv : ∃ A m c, Value.slice A2 0 c2 = .slice A m c := ⟨_, _, _, rfl⟩
  go_enter Try.func11, Try.ntmps11
  go_upto_region 1 with (fail)
  generalize hW : ((w.alloc _).alloc _).alloc _ = W
  generalize h3_ : w.heap.size + 1 + 1 = g3
  generalize h2_ : w.heap.size + 1 = g2
  generalize h1_ : w.heap.size = g1
  obtain ⟨hB0_, Hg1, Hg2, Hg3, kg1, kg2, kg3, fg1, fg2, fg3, lg1, lg2, lg3, bg1, bg2, bg3, ng12, ng13, ng21, ng23, ng31, ng32⟩ := gen3 w _ _ _ _ _ _ hW h3_ h2_ h1_
  clear hW h1_ h2_ h3_
  have H0W := Lib.hid hB0_
  clear hB0_
  have HHg1 := Lib.hid Hg1
  have HHg2 := Lib.hid Hg2
  have HHg3 := Lib.hid Hg3
  clear Hg1 Hg2 Hg3
  have HB := Lib.hid (Below.refl W.heap.size W)
  have HR := Lib.hid (h1.below H0W.out)
  have hbW : b < W.heap.size := Nat.lt_of_lt_of_le hb H0W.out.size
  clear h1
  go_region_held3 (fun w' => (∀ j, w'.cell? ⟨g1, j, none⟩ = #[Value.int IntKind.i64 e.slack, Value.slice (some ⟨b, o, none⟩) e.tones.length c1, Value.slice A2 0 c2][j]?) ∧ (∀ j, w'.cell? ⟨g2, j, none⟩ = #[Value.int IntKind.i64 1][j]?) ∧ (∀ j, w'.cell? ⟨g3, j, none⟩ = #[Value.int IntKind.i64 0][j]?) ∧ Below W.heap.size W w')
    (first | exact ⟨fun j => (hq.1 _ j lg1).trans (kg1 j), fun j => (hq.1 _ j lg2).trans (kg2 j), fun j => (hq.1 _ j lg3).trans (kg3 j), HB.out⟩ | exact ⟨fun j => ((CB.of (bl_drew HB.out)).1 _ j lg1).trans (kg1 j), fun j => ((CB.of (bl_drew HB.out)).1 _ j lg2).trans (kg2 j), fun j => ((CB.of (bl_drew HB.out)).1 _ j lg3).trans (kg3 j), bl_drew HB.out⟩)
    (first
    | (go_at_call 41; with_reducible refine (hT.out _ _ hv).mono ?_; rintro e_ w1 ⟨rfl, hb_⟩; have HB_ := Lib.hid (bl_then2 (by (repeat (with_reducible first | exact HB.out | apply bl_alloc2 | apply bl_drew2 | apply bl_drewN2))) hb_); clear HB hb_; (try clear hq); have HB := HB_; clear HB_; have hq := CB.of HB.out)
    | (go_at_call 43; refine (ask_calls e b o c1 A2 c2 he hr _ (HR.out.below (by (repeat (with_reducible first | exact HB.out | apply bl_alloc2 | apply bl_drew2 | apply bl_drewN2)))) (Nat.lt_of_lt_of_le hbW HB.out.size)).mono ?_; rintro e_ w1 ⟨v, rfl, hr_, hb_⟩; obtain ⟨gq, capq, hvq⟩ := row_slice hr_ hpos; subst hvq; have HO := Lib.hid hr_; have hsz := HB.out.size; clear hr_; have HB_ := Lib.hid (bl_then2 (by (repeat (with_reducible first | exact HB.out | apply bl_alloc2 | apply bl_drew2 | apply bl_drewN2))) hb_); clear HB hb_; (try clear hq); have HB := HB_; clear HB_; have hq := CB.of HB.out))
  have hV := Lib.hid (verdict48 (allTruths (fun _ => true) e) gq capq g2 g3 hlen)
  go_wp2_with (go_at_call 47; refine (hV.out _ (row_of_own (enc := T3.cs) (sz := 3) (fun _ => rfl) HO.out) ((hq.1 _ 0 lg2).trans (kg2 0)) ((hq.1 _ 0 lg3).trans (kg3 0))).mono ?_; rintro e_ w1 ⟨rfl, hb_⟩; have HB_ := Lib.hid (bl_then2 (by (repeat (with_reducible first | exact HB.out | apply bl_alloc2 | apply bl_drew2 | apply bl_drewN2))) hb_); clear HB hb_; (try clear hq); have HB := HB_; clear HB_; have hq := CB.of HB.out)
  go_ret2
  exact ⟨rfl, by (repeat (first | exact bl_then H0W.out HB.out | exact H0W.out | exact HB.out | exact Below.refl _ _ | refine bl_set ?_ (by assumption) _ | refine bl_alloc ?_ _ | refine bl_drew ?_ | refine bl_drewN ?_ _))⟩

end Go.Proofs.Ytnclljamcfoolaa
namespace Go.Proofs.Ytnclljamcfoolaa
open Go.RowKit
set_option linter.unusedVariables false
set_option linter.unusedSimpArgs false

theorem mnOf_le (f : T3 → Int) (l : List T3) : ∀ d, mnOf f l d ≤ d ∧ ∀ t ∈ l, mnOf f l d ≤ f t := by
  induction l with
  | nil => intro d; exact ⟨Int.le_refl _, by simp⟩
  | cons t l ih =>
    intro d
    have h := ih (min d (f t))
    have e : mnOf f (t :: l) d = mnOf f l (min d (f t)) := rfl
    rw [e]
    refine ⟨by omega, fun u hu => ?_⟩
    rcases List.mem_cons.1 hu with rfl | hu
    · omega
    · exact h.2 u hu
theorem le_mnOf (f : T3 → Int) (v : Int) (l : List T3) : ∀ d, v ≤ d → (∀ t ∈ l, v ≤ f t) → v ≤ mnOf f l d := by
  induction l with
  | nil => intro d h _; exact h
  | cons t l ih =>
    intro d h hl
    have e : mnOf f (t :: l) d = mnOf f l (min d (f t)) := rfl
    have h1 := hl t List.mem_cons_self
    rw [e]
    exact ih _ (by omega) fun u hu => hl u (List.mem_cons_of_mem _ hu)
theorem le_mxOf (f : T3 → Int) (l : List T3) : ∀ d, d ≤ mxOf f l d ∧ ∀ t ∈ l, f t ≤ mxOf f l d := by
  induction l with
  | nil => intro d; exact ⟨Int.le_refl _, by simp⟩
  | cons t l ih =>
    intro d
    have h := ih (max d (f t))
    have e : mxOf f (t :: l) d = mxOf f l (max d (f t)) := rfl
    rw [e]
    refine ⟨by omega, fun u hu => ?_⟩
    rcases List.mem_cons.1 hu with rfl | hu
    · omega
    · exact h.2 u hu
theorem mxOf_le (f : T3 → Int) (v : Int) (l : List T3) : ∀ d, d ≤ v → (∀ t ∈ l, f t ≤ v) → mxOf f l d ≤ v := by
  induction l with
  | nil => intro d h _; exact h
  | cons t l ih =>
    intro d h hl
    have e : mxOf f (t :: l) d = mxOf f l (max d (f t)) := rfl
    have h1 := hl t List.mem_cons_self
    rw [e]
    exact ih _ (by omega) fun u hu => hl u (List.mem_cons_of_mem _ hu)

theorem mem_upto (x : Rg) (n : Int) : n ∈ upto x ↔ x.mn ≤ n ∧ n ≤ x.mx := by
  unfold upto
  simp only [List.mem_map, List.mem_range]
  constructor
  · rintro ⟨j, hj, rfl⟩; omega
  · intro h; exact ⟨(n - x.mn).toNat, by omega, by omega⟩
theorem mem_truths2 (e : Ear) (x y : Rg) (he : e.tones = [x, y]) (t : T3) : t ∈ allTruths (fun _ => true) e ↔ ∃ n m, (x.mn ≤ n ∧ n ≤ x.mx) ∧ (y.mn ≤ m ∧ m ≤ y.mx) ∧ t = ⟨n, m, 0⟩ := by
  unfold allTruths
  rw [he]
  simp only [truthsFrom, List.mem_flatMap, mem_upto, if_true, List.mem_singleton]
  constructor
  · rintro ⟨n, hn, m, hm, rfl⟩; exact ⟨n, m, hn, hm, by simp [T3.set]⟩
  · rintro ⟨n, m, hn, hm, rfl⟩; exact ⟨n, hn, m, hm, by simp [T3.set]⟩
theorem truths2_ok {e : Ear} {x y : Rg} (he : e.tones = [x, y]) (h : earErr e = 0) : ∀ t ∈ allTruths (fun _ => true) e, t.Ok := by
  intro t ht
  obtain ⟨n, m, hn, hm, rfl⟩ := (mem_truths2 e x y he t).1 ht
  obtain ⟨-, -, hz⟩ := earErr_zero h
  rw [he] at hz
  have h1 := hz x (by simp)
  have h2 := hz y (by simp)
  exact ⟨by simp only []; omega, by simp only []; omega, by simp only []; omega⟩

theorem tb_mono {p q s : Int} (h : p ≤ q) (hs : 1 ≤ s) : p * s / 100 ≤ q * s / 100 :=
  Int.ediv_le_ediv (by omega) (Int.mul_le_mul_of_nonneg_right h (by omega))
theorem tbOf_at (s n m c : Int) : tbOf s ⟨n, m, c⟩ = max (n - m) (m - n) * s / 100 := rfl

/-- the least and the most beats of two tones, and whether the second is the higher one -/
theorem beats_law (e : Ear) (x y : Rg) (he : e.tones = [x, y]) (h : earErr e = 0) (s : Int) (hs : 1 ≤ s ∧ s ≤ 20) (t0 : T3) (h0 : t0 ∈ allTruths (fun _ => true) e) :
    mnOf (tbOf s) (allTruths (fun _ => true) e) (tbOf s t0) = max (max 0 (y.mn - x.mx)) (-(y.mx - x.mn)) * s / 100 ∧
    mxOf (tbOf s) (allTruths (fun _ => true) e) (tbOf s t0) = max (y.mx - x.mn) (-(y.mn - x.mx)) * s / 100 := by
  obtain ⟨-, -, hz⟩ := earErr_zero h
  rw [he] at hz
  have hx := hz x (by simp)
  have hy := hz y (by simp)
  have hlo : ∀ t ∈ allTruths (fun _ => true) e, max (max 0 (y.mn - x.mx)) (-(y.mx - x.mn)) * s / 100 ≤ tbOf s t := by
    intro t ht
    obtain ⟨n, m, hn, hm, rfl⟩ := (mem_truths2 e x y he t).1 ht
    rw [tbOf_at]
    exact tb_mono (by omega) hs.1
  have hhi : ∀ t ∈ allTruths (fun _ => true) e, tbOf s t ≤ max (y.mx - x.mn) (-(y.mn - x.mx)) * s / 100 := by
    intro t ht
    obtain ⟨n, m, hn, hm, rfl⟩ := (mem_truths2 e x y he t).1 ht
    rw [tbOf_at]
    exact tb_mono (by omega) hs.1
  constructor
  · refine Int.le_antisymm ?_ (le_mnOf _ _ _ _ (hlo t0 h0) hlo)
    obtain ⟨n, m, hn, hm, hv⟩ : ∃ n m, (x.mn ≤ n ∧ n ≤ x.mx) ∧ (y.mn ≤ m ∧ m ≤ y.mx) ∧ max (n - m) (m - n) = max (max 0 (y.mn - x.mx)) (-(y.mx - x.mn)) := by
      rcases Int.lt_or_le y.mn x.mx with h1 | h1
      · rcases Int.lt_or_le x.mn y.mx with h2 | h2
        · exact ⟨max x.mn y.mn, max x.mn y.mn, by omega, by omega, by omega⟩
        · exact ⟨x.mn, y.mx, by omega, by omega, by omega⟩
      · exact ⟨x.mx, y.mn, by omega, by omega, by omega⟩
    have hmem : (⟨n, m, 0⟩ : T3) ∈ allTruths (fun _ => true) e := (mem_truths2 e x y he _).2 ⟨n, m, hn, hm, rfl⟩
    have := (mnOf_le (tbOf s) (allTruths (fun _ => true) e) (tbOf s t0)).2 _ hmem
    rw [tbOf_at s n m 0, hv] at this
    exact this
  · refine Int.le_antisymm (mxOf_le _ _ _ _ (hhi t0 h0) hhi) ?_
    obtain ⟨n, m, hn, hm, hv⟩ : ∃ n m, (x.mn ≤ n ∧ n ≤ x.mx) ∧ (y.mn ≤ m ∧ m ≤ y.mx) ∧ max (n - m) (m - n) = max (y.mx - x.mn) (-(y.mn - x.mx)) := by
      rcases Int.lt_or_le (y.mx - x.mn) (x.mx - y.mn) with h1 | h1
      · exact ⟨x.mx, y.mn, by omega, by omega, by omega⟩
      · exact ⟨x.mn, y.mx, by omega, by omega, by omega⟩
    have hmem : (⟨n, m, 0⟩ : T3) ∈ allTruths (fun _ => true) e := (mem_truths2 e x y he _).2 ⟨n, m, hn, hm, rfl⟩
    have := (le_mxOf (tbOf s) (allTruths (fun _ => true) e) (tbOf s t0)).2 _ hmem
    rw [tbOf_at s n m 0, hv] at this
    exact this

theorem higher_law (e : Ear) (x y : Rg) (he : e.tones = [x, y]) (h : earErr e = 0) :
    (verdictOf (countP (fun t => decide (t.a < t.b)) (allTruths (fun _ => true) e)) (allTruths (fun _ => true) e).length = 1 ↔ 0 < y.mn - x.mx) ∧
    (verdictOf (countP (fun t => decide (t.a < t.b)) (allTruths (fun _ => true) e)) (allTruths (fun _ => true) e).length = 2 ↔ y.mx - x.mn ≤ 0) := by
  obtain ⟨-, -, hz⟩ := earErr_zero h
  rw [he] at hz
  have hx := hz x (by simp)
  have hy := hz y (by simp)
  have hpos := allTruths_pos h
  have hall : List.countP (fun t : T3 => decide (t.a < t.b)) (allTruths (fun _ => true) e) = (allTruths (fun _ => true) e).length ↔ 0 < y.mn - x.mx := by
    rw [List.countP_eq_length]
    constructor
    · intro H
      have := H ⟨x.mx, y.mn, 0⟩ ((mem_truths2 e x y he _).2 ⟨x.mx, y.mn, by omega, by omega, rfl⟩)
      simp only [decide_eq_true_eq] at this
      omega
    · intro H t ht
      obtain ⟨n, m, hn, hm, rfl⟩ := (mem_truths2 e x y he t).1 ht
      simp only [decide_eq_true_eq]
      omega
  have hnone : List.countP (fun t : T3 => decide (t.a < t.b)) (allTruths (fun _ => true) e) = 0 ↔ y.mx - x.mn ≤ 0 := by
    rw [List.countP_eq_zero]
    constructor
    · intro H
      have := H ⟨x.mn, y.mx, 0⟩ ((mem_truths2 e x y he _).2 ⟨x.mn, y.mx, by omega, by omega, rfl⟩)
      simp only [decide_eq_true_eq] at this
      omega
    · intro H t ht
      obtain ⟨n, m, hn, hm, rfl⟩ := (mem_truths2 e x y he t).1 ht
      simp only [decide_eq_true_eq]
      omega
  unfold verdictOf countP
  rw [← hall, ← hnone]
  generalize List.countP _ _ = c at *
  generalize (allTruths (fun _ => true) e).length = n at *
  constructor
  · constructor
    · intro H; split at H <;> (try split at H) <;> omega
    · intro H; rw [if_pos (by omega)]
  · constructor
    · intro H; split at H <;> (try split at H) <;> omega
    · intro H; rw [if_neg (by omega), if_pos (by omega)]

end Go.Proofs.Ytnclljamcfoolaa
namespace Go.Proofs.Ytnclljamcfoolaa
open Go.RowKit
set_option linter.unusedVariables false
set_option linter.unusedSimpArgs false

theorem fitsC_snoc (slack n : Int) (ls : List Ct) (c : Ct) : fitsC slack n (ls ++ [c]) = (fitsC slack n ls && trueAt slack n c) := by simp [fitsC]
theorem mem_keptC (slack : Int) (x : Rg) (ls : List Ct) (t : T3) : t ∈ keptC slack x ls ↔ ∃ n, (x.mn ≤ n ∧ n ≤ x.mx) ∧ fitsC slack n ls = true ∧ t = ⟨n, 0, 0⟩ := by
  unfold keptC keptN uptoN
  simp only [List.mem_map, List.mem_filter, List.mem_range]
  constructor
  · rintro ⟨n, ⟨⟨j, hj, rfl⟩, hf⟩, rfl⟩; exact ⟨_, ⟨by omega, by omega⟩, hf, rfl⟩
  · rintro ⟨n, ⟨h1, h2⟩, hf, rfl⟩; exact ⟨n, ⟨⟨(n - x.mn).toNat, by omega, by omega⟩, hf⟩, rfl⟩
theorem keptC_sub {slack : Int} {x : Rg} {ls : List Ct} {c : Ct} {t : T3} (h : t ∈ keptC slack x (ls ++ [c])) : t ∈ keptC slack x ls := by
  rw [mem_keptC] at h ⊢
  obtain ⟨n, h1, h2, h3⟩ := h
  rw [fitsC_snoc, Bool.and_eq_true] at h2
  exact ⟨n, h1, h2.1, h3⟩
theorem rngOf_in {l l' : List T3} {t t' : T3} (h : ∀ u ∈ l', u ∈ l) (ht : t' ∈ l') : inR (rngOf l t) (rngOf l' t') := by
  have h1 := mnOf_le tnOf l (tnOf t)
  have h2 := le_mxOf tnOf l (tnOf t)
  exact ⟨le_mnOf tnOf _ l' _ (h1.2 _ (h _ ht)) (fun u hu => h1.2 _ (h _ hu)), mxOf_le tnOf _ l' _ (h2.2 _ (h _ ht)) (fun u hu => h2.2 _ (h _ hu))⟩
theorem rngOf_ord (l : List T3) (t : T3) : (rngOf l t).mn ≤ (rngOf l t).mx := by
  have h1 := mnOf_le tnOf l (tnOf t)
  have h2 := le_mxOf tnOf l (tnOf t)
  show mnOf tnOf l (tnOf t) ≤ mxOf tnOf l (tnOf t)
  omega
/-- a job with another pitch -/
def Job.withP (j : Job) (p : Rg) : Job := ⟨⟨p, j.t.tip, j.t.root⟩, j.f, j.shifts, j.within, j.meter⟩
theorem jobErr_shifts {j : Job} (hj : jobErr j = 0) : ∀ s ∈ j.shifts, s.mn ≤ s.mx := by
  obtain ⟨-, -, -, -, -, -, h7, -⟩ := jobErr_zero hj
  intro s hs
  exact (rgErr_zero (h7 s hs)).2.2.2.2
/-- what is said of two jobs of which the second one's pitch is known better -/
theorem heard_law (j : Job) (p q : Rg) (h : inR p q) (hq : q.mn ≤ q.mx) (hj : jobErr (j.withP p) = 0) :
    (passR (j.withP p) p ≠ 3 → passR (j.withP q) q = passR (j.withP p) p) ∧ (∀ n, guidedR (j.withP p) = some n → ∃ m, guidedR (j.withP q) = some m ∧ m ≤ n) :=
  ⟨fun h3 => pass_in rfl rfl (jobErr_shifts hj) h hq h3, fun n hn => guided_in (a := j.withP p) (b := j.withP q) rfl rfl rfl rfl rfl rfl h n hn⟩
end Go.Proofs.Ytnclljamcfoolaa
namespace Go.Proofs.Ytnclljamcfoolaa
open Go.RowKit
set_option linter.unusedVariables false
set_option linter.unusedSimpArgs false

def sameAt (xs ys : List Rg) (k : Nat) : Bool := decide (xs.length = ys.length) && decide (xs.take k = ys.take k)

set_option maxRecDepth 100000 in
set_option maxHeartbeats 1000000 in
theorem same_calls (xs ys : List Rg) (A B : Option Addr) (c1 c2 : Nat) (hx : xs.length ≤ 1000000) (w : World) (h1 : Row Rg.cs 2 w A xs) (h2 : Row Rg.cs 2 w B ys) :
    Calls Try.prog 35 #[.slice A xs.length c1, .slice B ys.length c2] w fun e w' => e = .returned (.bool (sameAt xs ys xs.length)) ∧ Below w.heap.size w w' := by
  have HR1 := Lib.hid h1
  have HR2 := Lib.hid h2
  clear h1 h2
  go_enter Try.func35, Try.ntmps35
  go_wp2_with fail
  go_loopw [5, 6] (fun s i wr => ∃ k : Nat, k ≤ xs.length ∧ i = .int .i64 k ∧ s = .bool (sameAt xs ys k) ∧ Below w.heap.size w wr)
    (fun _ i _ => xs.length - (intOf i).toNat)
  case atStart => exact ⟨0, Nat.zero_le _, rfl, by simp [sameAt]; rw [Bool.eq_iff_iff]; simp; omega, Below.refl _ _⟩
  case round =>
    obtain ⟨k, hk, rfl, rfl, hb⟩ := hrel
    by_cases hs : sameAt xs ys k = true
    · by_cases hlt : k < xs.length
      · have hlti : ((k : Int) < (xs.length : Int)) := by omega
        have hlen : xs.length = ys.length := by simp [sameAt] at hs; exact hs.1
        obtain ⟨b, o, rfl, hlb, a0, a1⟩ := (HR1.out.below hb).rg k hlt
        obtain ⟨b2, o2, rfl, hlb2, d0, d1⟩ := (HR2.out.below hb).rg k (by omega)
        have hlti2 : ((k : Int) < (ys.length : Int)) := by omega
        rw [hs]
        go_upto_region 5 with (fail)
        by_cases hmn : xs[k].mn = ys[k].mn <;> by_cases hmx : xs[k].mx = ys[k].mx
        all_goals (
          refine wp_region_peel (S := fun w' => w' = wr.drew) 9 _ _ (by kernel_rfl) rfl rfl rfl (by kernel_rfl) (by kernel_rfl) rfl (fun hHeld => ?_)
          simp only [Act.put, stillOf, List.set_cons_succ, List.set_cons_zero, List.setIfInBounds_toArray, List.getElem_toArray, List.getElem_cons_succ, List.getElem_cons_zero]
          refine wpAnyH_take (i := 0) (v := ?_) rfl (by kernel_rfl) (by kernel_rfl) (by kernel_rfl) (fun _ _ _ h => h) (Or.inl ⟨by rfl, ?_⟩) (by assumption) ?_; rotate_left 1; (focus ((intro w_ hS_; (try dsimp only at hS_); go_simp; first | done | with_reducible rfl))); simp only [Act.put, stillOf, List.set_cons_succ, List.set_cons_zero, List.setIfInBounds_toArray, List.getElem_toArray, List.getElem_cons_succ, List.getElem_cons_zero]
          refine wpAnyH_take (i := 1) (v := ?_) rfl (by kernel_rfl) (by kernel_rfl) (by kernel_rfl) (fun _ _ _ h => h) (Or.inl ⟨by rfl, ?_⟩) (by assumption) ?_; rotate_left 1; (focus ((intro w_ hS_; (try dsimp only at hS_); go_simp; first | done | with_reducible rfl))); simp only [Act.put, stillOf, List.set_cons_succ, List.set_cons_zero, List.setIfInBounds_toArray, List.getElem_toArray, List.getElem_cons_succ, List.getElem_cons_zero]
          refine wpAnyH_take (i := 2) (v := ?_) rfl (by kernel_rfl) (by kernel_rfl) (by kernel_rfl) (fun _ _ _ h => h) (Or.inl ⟨by rfl, ?_⟩) (by assumption) ?_; rotate_left 1; (focus ((intro w_ hS_; (try dsimp only at hS_); go_simp; first | done | with_reducible rfl))); simp only [Act.put, stillOf, List.set_cons_succ, List.set_cons_zero, List.setIfInBounds_toArray, List.getElem_toArray, List.getElem_cons_succ, List.getElem_cons_zero]
          refine wpAnyH_take (i := 3) (v := ?_) rfl (by kernel_rfl) (by kernel_rfl) (by kernel_rfl) (fun _ _ _ h => h) (Or.inl ⟨by rfl, ?_⟩) (by assumption) ?_; rotate_left 1; (focus ((intro w_ hS_; (try dsimp only at hS_); go_simp; first | done | with_reducible rfl))); simp only [Act.put, stillOf, List.set_cons_succ, List.set_cons_zero, List.setIfInBounds_toArray, List.getElem_toArray, List.getElem_cons_succ, List.getElem_cons_zero]
          refine wpAnyH_take (i := 4) (v := ?_) rfl (by kernel_rfl) (by kernel_rfl) (by kernel_rfl) (fun _ _ _ h => h) (Or.inl ⟨by rfl, ?_⟩) (by assumption) ?_; rotate_left 1; (focus ((intro w_ hS_; (try dsimp only at hS_); go_simp; first | done | with_reducible rfl))); simp only [Act.put, stillOf, List.set_cons_succ, List.set_cons_zero, List.setIfInBounds_toArray, List.getElem_toArray, List.getElem_cons_succ, List.getElem_cons_zero]
          refine wpAnyH_take (i := 5) (v := ?_) rfl (by kernel_rfl) (by kernel_rfl) (by kernel_rfl) (fun _ _ _ h => h) (Or.inl ⟨by rfl, ?_⟩) (by assumption) ?_; rotate_left 1; (focus ((intro w_ hS_; (try dsimp only at hS_); go_simp; first | done | with_reducible rfl))); simp only [Act.put, stillOf, List.set_cons_succ, List.set_cons_zero, List.setIfInBounds_toArray, List.getElem_toArray, List.getElem_cons_succ, List.getElem_cons_zero]
          refine wpAnyH_take (i := 6) (v := ?_) rfl (by kernel_rfl) (by kernel_rfl) (by kernel_rfl) (fun _ _ _ h => h) (Or.inl ⟨by rfl, ?_⟩) (by assumption) ?_; rotate_left 1; (focus ((intro w_ hS_; (try dsimp only at hS_); go_simp; first | done | with_reducible rfl))); simp only [Act.put, stillOf, List.set_cons_succ, List.set_cons_zero, List.setIfInBounds_toArray, List.getElem_toArray, List.getElem_cons_succ, List.getElem_cons_zero]
          refine wpAnyH_take (i := 7) (v := ?_) rfl (by kernel_rfl) (by kernel_rfl) (by kernel_rfl) (fun _ _ _ h => h) (Or.inl ⟨by rfl, ?_⟩) (by assumption) ?_; rotate_left 1; (focus ((intro w_ hS_; (try dsimp only at hS_); go_simp; first | done | with_reducible rfl))); simp only [Act.put, stillOf, List.set_cons_succ, List.set_cons_zero, List.setIfInBounds_toArray, List.getElem_toArray, List.getElem_cons_succ, List.getElem_cons_zero]
          refine wpAnyH_take (i := 8) (v := ?_) rfl (by kernel_rfl) (by kernel_rfl) (by kernel_rfl) (fun _ _ _ h => h) (Or.inl ⟨by rfl, ?_⟩) (by assumption) ?_; rotate_left 1; (focus ((intro w_ hS_; (try dsimp only at hS_); go_simp; first | done | with_reducible rfl))); simp only [Act.put, stillOf, List.set_cons_succ, List.set_cons_zero, List.setIfInBounds_toArray, List.getElem_toArray, List.getElem_cons_succ, List.getElem_cons_zero]
          refine wpAnyH_ready (rs := [9]) (by kernel_rfl) (by simp) (AllReadyH.cons rfl (fun K hK => ?_) AllReadyH.nil)
          go_simp
          refine hK.out _ _ rfl (fun hHeld2 => ?_)
          refine wpAnyH_done (by kernel_rfl) ?_ _
          unfold Peeled
          dsimp only
          go_simp
          go_wp2_with fail)
        all_goals (
          have hst : sameAt xs ys (k + 1) = (sameAt xs ys k && decide (xs[k].mn = ys[k].mn) && decide (xs[k].mx = ys[k].mx)) := by
            unfold sameAt
            rw [List.take_succ_eq_append_getElem hlt, List.take_succ_eq_append_getElem (show k < ys.length by omega), Bool.eq_iff_iff]
            have he : xs[k] = ys[k] ↔ xs[k].mn = ys[k].mn ∧ xs[k].mx = ys[k].mx := by
              cases hx1 : xs[k]; cases hy1 : ys[k]; simp
            have hl2 : (xs.take k).length = (ys.take k).length := by simp; omega
            have hap : (xs.take k ++ [xs[k]] = ys.take k ++ [ys[k]]) ↔ (xs.take k = ys.take k ∧ xs[k] = ys[k]) := ⟨fun h => by have h3 := List.append_inj h hl2; exact ⟨h3.1, by simpa using h3.2⟩, fun h => by rw [h.1, h.2]⟩
            simp only [hap, he, Bool.and_eq_true, decide_eq_true_eq, hlen, true_and, and_assoc]
          refine ⟨⟨k + 1, by omega, by simp, ?_, bl_drew hb⟩, ?_⟩
          · rw [hst, hs]; simp [*]
          · simp [intOf]; omega)
      · rw [hs]
        have hkl : k = xs.length := by omega
        subst hkl
        go_wp2_with fail
        go_ret
        exact ⟨by rw [hs]; rfl, hb⟩
    · have hs' : sameAt xs ys k = false := by simpa using hs
      rw [hs']
      go_wp2_with fail
      go_ret
      refine ⟨?_, hb⟩
      have : sameAt xs ys xs.length = false := by
        cases h : sameAt xs ys xs.length with
        | false => rfl
        | true =>
          simp [sameAt] at h hs
          refine absurd ?_ (hs h.1)
          have h2 : xs = ys := by rw [h.1] at h; simpa using h.2
          rw [h2]
      rw [this]; rfl

end Go.Proofs.Ytnclljamcfoolaa
namespace Go.Proofs.Ytnclljamcfoolaa
open Go.RowKit
set_option linter.unusedVariables false
set_option linter.unusedSimpArgs false

theorem within5_calls (n lo hi : Int) (w : World) : Calls Try.prog 79 #[.int .i64 n, .int .i64 lo, .int .i64 hi] w fun e w' => e = .returned (.bool (inB n lo hi)) ∧ w = w' := by
  unfold inB
  go_enter Try.func79, Try.ntmps79
  go_wp2
  all_goals go_ret
  all_goals exact ⟨by simp [*] <;> omega, rfl⟩

theorem law5_calls (l : Law) (w : World) :
    Calls Try.prog 98 #[.agg #[.int .i64 l.first, .int .i64 l.step, .int .i64 l.span, .int .i64 l.press]] w fun e w' => e = .returned (.int .i64 (lawErr l)) ∧ Below w.heap.size w w' := by
  go_enter Try.func98, Try.ntmps98
  go_wp2_with (go_at_call 79; (with_reducible refine (within5_calls _ _ _ _).mono ?_); rintro e_ w1 ⟨rfl, rfl⟩)
  all_goals (go_ret; refine ⟨ret_int ?_, by (repeat (first | assumption | exact Below.refl _ _ | refine bl_alloc ?_ _ | refine bl_drew ?_ | refine bl_drewN ?_ _))⟩; go_tidy; unfold lawErr; simp_all)

theorem due5_calls (l : Law) (n : Int) (w : World) :
    Calls Try.prog 99 #[.agg #[.int .i64 l.first, .int .i64 l.step, .int .i64 l.span, .int .i64 l.press], .int .i64 n] w fun e w' => e = .returned (.int .i64 (wrap64 (l.first + wrap64 (l.step * n)))) ∧ Below w.heap.size w w' := by
  go_enter Try.func99, Try.ntmps99
  go_wp2
  go_ret
  exact ⟨rfl, by (repeat (first | assumption | exact Below.refl _ _ | refine bl_alloc ?_ _ | refine bl_drew ?_ | refine bl_drewN ?_ _))⟩

set_option maxRecDepth 100000 in
set_option maxHeartbeats 1000000 in
theorem checkSound5_calls (s : Snd) (w : World) :
    Calls Try.prog 113 #[.agg #[.int .i64 s.tone.mn, .int .i64 s.tone.mx, .int .i64 s.slope.mn, .int .i64 s.slope.mx]] w fun e w' => e = .returned (.int .i64 (sndErr s)) ∧ Below w.heap.size w w' := by
  have i0 : ∀ w, (Instr.index 167 (.agg #[.int .i64 s.tone.mn, .int .i64 s.tone.mx, .int .i64 s.slope.mn, .int .i64 s.slope.mx]) (.int .i64 0)).run Try.prog w = .ok (.agg #[.int .i64 s.tone.mn, .int .i64 s.tone.mx]) w := fun _ => by kernel_rfl
  have i1 : ∀ w, (Instr.index 167 (.agg #[.int .i64 s.tone.mn, .int .i64 s.tone.mx, .int .i64 s.slope.mn, .int .i64 s.slope.mx]) (.int .i64 1)).run Try.prog w = .ok (.agg #[.int .i64 s.slope.mn, .int .i64 s.slope.mx]) w := fun _ => by kernel_rfl
  go_enter Try.func113, Try.ntmps113
  go_upto_region 1 with (fail)
  generalize hW : w.alloc _ = W
  generalize h1_ : w.heap.size = g1
  obtain ⟨hB0_, Hg1, kg1, fg1, lg1, bg1⟩ := gen1 w _ _ hW h1_
  clear hW h1_
  have H0W := Lib.hid hB0_
  clear hB0_
  have HHg1 := Lib.hid Hg1
  clear Hg1
  go_wp2
  go_loopw [11] (fun i wr => ∃ k : Nat, k ≤ 2 ∧ i = .int .i64 k ∧ Below W.heap.size W wr ∧ (1 ≤ k → rgErr s.tone (-30) 30 = 0) ∧ (2 ≤ k → rgErr s.slope (-3) 3 = 0))
    (fun i _ => 2 - (intOf i).toNat)
  case atStart => exact ⟨0, by omega, rfl, Below.refl _ _, by omega, by omega⟩
  case round =>
    obtain ⟨k, hk, rfl, hb, h1, h2⟩ := hrel
    have HB := Lib.hid hb
    have HK := Lib.hid (And.intro h1 h2)
    clear hb h1 h2
    have hq := CB.of HB.out
    obtain rfl | rfl | rfl : k = 0 ∨ k = 1 ∨ k = 2 := by omega
    · go_wp2_with (go_at_call 79; (with_reducible refine (within5_calls _ _ _ _).mono ?_); rintro e_ w1 ⟨rfl, rfl⟩)
      all_goals first
        | (go_ret; exact ⟨ret_int (by go_tidy; unfold sndErr orE rgErr; simp_all), by (repeat (first | exact bl_then H0W.out HB.out | exact H0W.out | exact HB.out | exact Below.refl _ _ | refine bl_set ?_ (by assumption) _ | refine bl_alloc ?_ _ | refine bl_drew ?_ | refine bl_drewN ?_ _))⟩)
        | (go_roundw
           (case rel => exact ⟨1, by omega, by go_num, by (repeat (with_reducible first | exact HB.out | apply bl_alloc2 | apply bl_drew2 | apply bl_drewN2)), fun _ => by go_tidy; unfold rgErr; simp_all, by omega⟩)
           (case measure => simp [intOf]))
    · have h0 : rgErr s.tone (-30) 30 = 0 := HK.out.1 (by omega)
      go_wp2_with (go_at_call 79; (with_reducible refine (within5_calls _ _ _ _).mono ?_); rintro e_ w1 ⟨rfl, rfl⟩)
      all_goals first
        | (go_ret; exact ⟨ret_int (by go_tidy; unfold sndErr orE; rw [if_pos h0]; unfold rgErr; simp_all), by (repeat (first | exact bl_then H0W.out HB.out | exact H0W.out | exact HB.out | exact Below.refl _ _ | refine bl_set ?_ (by assumption) _ | refine bl_alloc ?_ _ | refine bl_drew ?_ | refine bl_drewN ?_ _))⟩)
        | (go_roundw
           (case rel => exact ⟨2, by omega, by go_num, by (repeat (with_reducible first | exact HB.out | apply bl_alloc2 | apply bl_drew2 | apply bl_drewN2)), fun _ => h0, fun _ => by go_tidy; unfold rgErr; simp_all⟩)
           (case measure => simp [intOf]))
    · go_wp2_with fail
      go_ret
      exact ⟨ret_int (by unfold sndErr orE; rw [if_pos (HK.out.1 (by omega)), HK.out.2 (by omega)]), by (repeat (first | exact bl_then H0W.out HB.out | exact H0W.out | exact HB.out | exact Below.refl _ _ | refine bl_set ?_ (by assumption) _ | refine bl_alloc ?_ _ | refine bl_drew ?_ | refine bl_drewN ?_ _))⟩

set_option maxRecDepth 100000 in
set_option maxHeartbeats 1000000 in
theorem checkSounds5_calls (xs : List Snd) (m : Int) (A : Option Addr) (n c : Nat) (w : World) (h : Row Snd.cs 4 w A xs) (hn : xs.length = n) (hm : xs.length ≤ 1000000000000000) :
    Calls Try.prog 100 #[.slice A n c, .int .i64 m] w fun e w' => e = .returned (.int .i64 (sndsErr xs m)) ∧ Below w.heap.size w w' := by
  subst hn
  go_enter Try.func100, Try.ntmps100
  have HR := Lib.hid h
  clear h
  by_cases hlen : m < (xs.length : Int)
  · have hl : decide (m < (xs.length : Int)) = true := decide_eq_true hlen
    go_wp2
    go_ret
    exact ⟨ret_int (by unfold sndsErr; rw [if_pos hlen]), Below.refl _ _⟩
  have hl : decide (m < (xs.length : Int)) = false := decide_eq_false hlen
  have hS := Lib.hid (show sndsErr xs m = firstErr sndErr xs by unfold sndsErr; rw [if_neg hlen])
  go_wp2
  clear hl
  go_loopw [14] (fun i wr => ∃ k : Nat, k ≤ xs.length ∧ i = .int .i64 k ∧ Below w.heap.size w wr ∧ firstErr sndErr xs = firstErr sndErr (xs.drop k))
    (fun i _ => xs.length - (intOf i).toNat)
  case atStart => exact ⟨0, Nat.zero_le _, rfl, Below.refl _ _, rfl⟩
  case round =>
    obtain ⟨k, hk, rfl, hb, hf⟩ := hrel
    have HF := Lib.hid hf
    have HB := Lib.hid hb
    clear hf hb
    have hq := CB.of HB.out
    by_cases hlt : k < xs.length
    · obtain ⟨b, o, rfl, hlb, hc0, hc1, hc2, hc3⟩ := HR.out.snd k hlt
      have hlti : ((k : Int) < (xs.length : Int)) := by omega
      go_wp2_with (go_at_call 113; (with_reducible refine (checkSound5_calls (xs[k]) _).mono ?_); rintro e_ w1 ⟨rfl, hb_⟩; have HB_ := Lib.hid (bl_then2 (by (repeat (with_reducible first | exact HB.out | apply bl_alloc2 | apply bl_drew2 | apply bl_drewN2))) hb_); clear HB hb_; (try clear hq); have HB := HB_; clear HB_; have hq := CB.of HB.out)
      · go_ret
        exact ⟨ret_int (hS.out.trans (firstErr_is (hk := hlt) HF.out rfl (by simpa using (show (sndErr xs[k] != 0) = true by assumption)))).symm, HB.out⟩
      · go_roundw
        case rel => exact ⟨k + 1, hlt, by go_num, HB.out, firstErr_next (hk := hlt) HF.out (by simpa using (show (sndErr xs[k] != 0) = false by assumption))⟩
        case measure => simp [intOf]; omega
    · go_wp2_with fail
      go_ret
      exact ⟨ret_int (hS.out.trans (firstErr_end HF.out (Nat.not_lt.1 hlt))).symm, HB.out⟩

theorem size30 : (Try.prog.info? 30).map (·.size) = some 21 := by kernel_rfl
theorem size51 : (Try.prog.info? 51).map (·.size) = some 18 := by kernel_rfl
theorem size28 : (Try.prog.info? 28).map (·.size) = some 9 := by kernel_rfl

end Go.Proofs.Ytnclljamcfoolaa
namespace Go.Proofs.Ytnclljamcfoolaa
open Go.RowKit
set_option linter.unusedVariables false
set_option linter.unusedSimpArgs false

theorem size26 : (Try.prog.info? 26).map (·.size) = some 2 := by kernel_rfl
theorem size3 : (Try.prog.info? 3).map (·.size) = some 1 := by kernel_rfl
set_option maxRecDepth 100000 in
set_option maxHeartbeats 4000000 in
theorem blank5_calls (b : Box) (A1 A2 : Option Addr) (c1 c2 : Nat) (w : World) :
    Calls Try.prog 101 #[b.v A1 c1 A2 c2] w fun e w' => e = .returned ((blankOf b).v none 0) ∧ Below w.heap.size w w' := by
  unfold Box.v Job.v blankOf
  dsimp only [List.length_nil]
  go_enter Try.func101, Try.ntmps101
  go_upto_region 2 with (fail)
  go_region
  generalize hW : ((w.alloc _).alloc _).alloc _ = W
  generalize h3_ : w.heap.size + 1 + 1 = g3
  generalize h2_ : w.heap.size + 1 = g2
  generalize h1_ : w.heap.size = g1
  obtain ⟨hB0_, Hg1, Hg2, Hg3, kg1, kg2, kg3, fg1, fg2, fg3, lg1, lg2, lg3, bg1, bg2, bg3, ng12, ng13, ng21, ng23, ng31, ng32⟩ := gen3 w _ _ _ _ _ _ hW h3_ h2_ h1_
  clear hW h1_ h2_ h3_
  have H0W := Lib.hid hB0_
  clear hB0_
  have HHg1 := Lib.hid Hg1
  have HHg2 := Lib.hid Hg2
  have HHg3 := Lib.hid Hg3
  clear Hg1 Hg2 Hg3
  have HB := Lib.hid (bl_drew (Below.refl W.heap.size W))
  go_wp2_with (first
    | ((with_reducible refine ld_gate 51 rfl ?_); refine wpList_load_row rfl 51 _ rfl g3 rfl 51 _ (0, 0) _ ((HB.out.block _ lg3).trans HHg3.out) Try.underlying51 rfl size51 ?_)
    | ((with_reducible refine st_gate 51 rfl ?_); refine wpList_store_row rfl 51 _ _ rfl g2 _ rfl rfl 51 _ ((HB.out.block _ lg2).trans HHg2.out) size51 (by simp) (by simp [Value.oneCell']) ?_))
  exact ret_row rfl g2 51 _ _ rfl (setRow_heap ((HB.out.block _ lg2).trans HHg2.out)) Try.underlying51 rfl size51 rfl ⟨rfl, bl_setRow (bl_then H0W.out HB.out) bg2 _⟩

end Go.Proofs.Ytnclljamcfoolaa
namespace Go.Proofs.Ytnclljamcfoolaa
open Go.RowKit
set_option linter.unusedVariables false
set_option linter.unusedSimpArgs false

set_option maxRecDepth 100000 in
set_option maxHeartbeats 1000000 in
theorem voiceCheck_calls (b : Box) (A1 A2 : Option Addr) (c1 c2 : Nat) (w : World) (h1 : Row Snd.cs 4 w A1 b.lows) (h2 : Row Snd.cs 4 w A2 b.highs) (hm1 : b.lows.length ≤ 1000000000000000) (hm2 : b.highs.length ≤ 1000000000000000) :
    Calls Try.prog 78 #[b.v A1 c1 A2 c2] w fun e w' => e = .returned (.int .i64 (boxErr b)) ∧ Below w.heap.size w w' := by
  have hw := Lib.hid (due_wrap (b := b))
  unfold Box.v
  go_enter Try.func78, Try.ntmps78
  go_upto_region 1 with (fail)
  generalize hW : w.alloc _ = W
  generalize h1_ : w.heap.size = g1
  obtain ⟨hB0_, Hg1, kg1, fg1, lg1, bg1⟩ := gen1 w _ _ hW h1_
  clear hW h1_
  have H0W := Lib.hid hB0_
  clear hB0_
  have HHg1 := Lib.hid Hg1
  clear Hg1
  have HB := Lib.hid (Below.refl W.heap.size W)
  have HR1 := Lib.hid (h1.below H0W.out)
  have HR2 := Lib.hid (h2.below H0W.out)
  clear h1 h2
  go_wp2_with (first
    | ((with_reducible refine ld_gate 30 rfl ?_); refine wpList_load_row rfl 30 _ rfl g1 rfl 30 _ (0, 0) _ ((HB.out.block _ lg1).trans HHg1.out) Try.underlying30 rfl size30 ?_)
    | (go_at_call 98; (with_reducible refine (law5_calls b.law _).mono ?_); rintro e_ w1 ⟨rfl, hb_⟩; have HB_ := Lib.hid (bl_then2 (by (repeat (with_reducible first | exact HB.out | apply bl_alloc2 | apply bl_drew2 | apply bl_drewN2))) hb_); clear HB hb_; (try clear hq); have HB := HB_; clear HB_; have hq := CB.of HB.out)
    | (go_at_call 99; (with_reducible refine (due5_calls b.law _ _).mono ?_); rintro e_ w1 ⟨rfl, hb_⟩; have HB_ := Lib.hid (bl_then2 (by (repeat (with_reducible first | exact HB.out | apply bl_alloc2 | apply bl_drew2 | apply bl_drewN2))) hb_); clear HB hb_; (try clear hq); have HB := HB_; clear HB_; have hq := CB.of HB.out)
    | (go_at_call 79; (with_reducible refine (within5_calls _ _ _ _).mono ?_); rintro e_ w1 ⟨rfl, rfl⟩)
    | (go_at_call 100; (with_reducible refine (checkSounds5_calls b.lows _ _ _ _ _ (HR1.out.below HB.out) rfl hm1).mono ?_); rintro e_ w1 ⟨rfl, hb_⟩; have HB_ := Lib.hid (bl_then2 (by (repeat (with_reducible first | exact HB.out | apply bl_alloc2 | apply bl_drew2 | apply bl_drewN2))) hb_); clear HB hb_; (try clear hq); have HB := HB_; clear HB_; have hq := CB.of HB.out)
    | (go_at_call 100; (with_reducible refine (checkSounds5_calls b.highs _ _ _ _ _ (HR2.out.below HB.out) rfl hm2).mono ?_); rintro e_ w1 ⟨rfl, hb_⟩; have HB_ := Lib.hid (bl_then2 (by (repeat (with_reducible first | exact HB.out | apply bl_alloc2 | apply bl_drew2 | apply bl_drewN2))) hb_); clear HB hb_; (try clear hq); have HB := HB_; clear HB_; have hq := CB.of HB.out)
    | (go_at_call 101; refine (blank5_calls b _ _ _ _ _).mono ?_; rintro e_ w1 ⟨rfl, hb_⟩; have HB_ := Lib.hid (bl_then2 (by (repeat (with_reducible first | exact HB.out | apply bl_alloc2 | apply bl_drew2 | apply bl_drewN2))) hb_); clear HB hb_; (try clear hq); have HB := HB_; clear HB_; have hq := CB.of HB.out)
    | (go_at_call 58; refine (reedCheck_calls (blankOf b) _ _ _ (.inl rfl) (by simp [blankOf])).mono ?_; rintro e_ w1 ⟨rfl, hb_⟩; have HB_ := Lib.hid (bl_then2 (by (repeat (with_reducible first | exact HB.out | apply bl_alloc2 | apply bl_drew2 | apply bl_drewN2))) hb_); clear HB hb_; (try clear hq); have HB := HB_; clear HB_; have hq := CB.of HB.out))
  all_goals (go_ret; refine ⟨ret_int ?_, by (repeat (first | exact bl_then H0W.out HB.out | exact H0W.out | exact HB.out | exact Below.refl _ _ | refine bl_set ?_ (by assumption) _ | refine bl_alloc ?_ _ | refine bl_drew ?_ | refine bl_drewN ?_ _))⟩; go_tidy; have hw' := hw.out; clear hw; unfold boxErr orE; simp_all)

def pairErr (b : Box) (i k : Int) : Int := orE (boxErr b) (if inB i 0 (b.lows.length - 1) = false then 3 else if inB k 0 (b.highs.length - 1) = false then 3 else 0)

set_option maxRecDepth 100000 in
set_option maxHeartbeats 1000000 in
theorem checkPair5_calls (b : Box) (A1 A2 : Option Addr) (c1 c2 : Nat) (i k : Int) (w : World) (h1 : Row Snd.cs 4 w A1 b.lows) (h2 : Row Snd.cs 4 w A2 b.highs) (hm1 : b.lows.length ≤ 1000000000000000) (hm2 : b.highs.length ≤ 1000000000000000) :
    Calls Try.prog 36 #[b.v A1 c1 A2 c2, .int .i64 i, .int .i64 k] w fun e w' => e = .returned (.int .i64 (pairErr b i k)) ∧ Below w.heap.size w w' := by
  go_enter Try.func36, Try.ntmps36
  go_upto_region 1 with (fail)
  generalize hW : w.alloc _ = W
  generalize h1_ : w.heap.size = g1
  obtain ⟨hB0_, Hg1, kg1, fg1, lg1, bg1⟩ := gen1 w _ _ hW h1_
  clear hW h1_
  have H0W := Lib.hid hB0_
  clear hB0_
  have HHg1 := Lib.hid Hg1
  clear Hg1
  have HB := Lib.hid (Below.refl W.heap.size W)
  have HR1 := Lib.hid (h1.below H0W.out)
  have HR2 := Lib.hid (h2.below H0W.out)
  clear h1 h2
  go_wp2_with (first
    | ((with_reducible refine ld_gate 30 rfl ?_); refine wpList_load_row rfl 30 _ rfl g1 rfl 30 _ (0, 0) _ ((HB.out.block _ lg1).trans HHg1.out) Try.underlying30 rfl size30 ?_)
    | (go_at_call 78; refine (voiceCheck_calls b _ _ _ _ _ (HR1.out.below HB.out) (HR2.out.below HB.out) hm1 hm2).mono ?_; rintro e_ w1 ⟨rfl, hb_⟩; have HB_ := Lib.hid (bl_then2 (by (repeat (with_reducible first | exact HB.out | apply bl_alloc2 | apply bl_drew2 | apply bl_drewN2))) hb_); clear HB hb_; (try clear hq); have HB := HB_; clear HB_; have hq := CB.of HB.out)
    | (go_at_call 79; (with_reducible refine (within5_calls _ _ _ _).mono ?_); rintro e_ w1 ⟨rfl, rfl⟩))
  all_goals (go_ret; refine ⟨ret_int ?_, by (repeat (first | exact bl_then H0W.out HB.out | exact H0W.out | exact HB.out | exact Below.refl _ _ | refine bl_set ?_ (by assumption) _ | refine bl_alloc ?_ _ | refine bl_drew ?_ | refine bl_drewN ?_ _))⟩; go_tidy; unfold pairErr orE; simp_all)

theorem boxErr_zero {b : Box} (h : boxErr b = 0) : lawErr b.law = 0 ∧ sndsErr b.lows 4 = 0 ∧ sndsErr b.highs 5 = 0 := by
  unfold boxErr orE at h
  (repeat' split at h) <;> simp_all
theorem sndErr_zero {s : Snd} (h : sndErr s = 0) : (-30 ≤ s.tone.mn ∧ s.tone.mn ≤ 30 ∧ -30 ≤ s.tone.mx ∧ s.tone.mx ≤ 30 ∧ s.tone.mn ≤ s.tone.mx) ∧ (-3 ≤ s.slope.mn ∧ s.slope.mn ≤ 3 ∧ -3 ≤ s.slope.mx ∧ s.slope.mx ≤ 3 ∧ s.slope.mn ≤ s.slope.mx) := by
  unfold sndErr orE at h
  split at h
  · next h1 => exact ⟨rgErr_zero h1, rgErr_zero h⟩
  · next h1 => exact absurd h h1
theorem sndsErr_at {l : List Snd} {m : Int} (h : sndsErr l m = 0) (k : Nat) (hk : k < l.length) : sndErr l[k] = 0 := by
  unfold sndsErr at h
  split at h
  · cases h
  · exact (firstErr_zero _ _).1 h _ (List.getElem_mem hk)
def beatsOf (b : Box) (i k : Nat) (hi : i < b.lows.length) (hk : k < b.highs.length) (n : Nat) : List Rg :=
  beatsUp b.lows[i].tone.mn b.lows[i].tone.mx b.lows[i].slope.mn b.lows[i].slope.mx b.highs[k].tone.mn b.highs[k].tone.mx b.highs[k].slope.mn b.highs[k].slope.mx n

set_option maxRecDepth 100000 in
set_option maxHeartbeats 2000000 in
theorem Beat_calls (b : Box) (A1 A2 : Option Addr) (c1 c2 : Nat) (i k : Nat) (hi : i < b.lows.length) (hk : k < b.highs.length) (P : Nat) (hP : b.law.press = P) (hb : boxErr b = 0) (w : World) (h1 : Row Snd.cs 4 w A1 b.lows) (h2 : Row Snd.cs 4 w A2 b.highs) (hm1 : b.lows.length ≤ 1000000000000000) (hm2 : b.highs.length ≤ 1000000000000000) :
    Calls Try.prog 8 #[b.v A1 c1 A2 c2, .int .i64 i, .int .i64 k] w fun e w' => ∃ v, e = .returned (.tuple #[v, .int .i64 0]) ∧ w'.ownsRow w.heap.size 26 2 v (P + 1) (flat Rg.cs (beatsOf b i k hi hk (P + 1))) ∧ Below w.heap.size w w' := by
  have hp : pairErr b i k = 0 := by unfold pairErr orE; rw [if_pos hb]; simp [inB_false]; omega
  have hl := lawErr_zero (boxErr_zero hb).1
  have s1 := sndErr_zero (sndsErr_at (boxErr_zero hb).2.1 i hi)
  have s2 := sndErr_zero (sndsErr_at (boxErr_zero hb).2.2 k hk)
  have hPb : P ≤ 3 := by omega
  have HP := Lib.hid hP
  clear hP
  have HC := Lib.hid (checkPair5_calls b A1 A2 c1 c2 i k)
  rw [hp] at HC
  have i0 : (0 : Int) ≤ (i : Int) := by omega
  have k0 : (0 : Int) ≤ (k : Int) := by omega
  have i1 : (i : Int) < (b.lows.length : Int) := by omega
  have k1 : (k : Int) < (b.highs.length : Int) := by omega
  go_enter Try.func8, Try.ntmps8
  go_upto_region 1 with (fail)
  generalize hW : w.alloc _ = W
  generalize h1_ : w.heap.size = g1
  obtain ⟨hB0_, Hg1, kg1, fg1, lg1, bg1⟩ := gen1 w _ _ hW h1_
  clear hW h1_
  have H0W := Lib.hid hB0_
  clear hB0_
  have HHg1 := Lib.hid Hg1
  clear Hg1
  have HB := Lib.hid (Below.refl W.heap.size W)
  have HR1 := Lib.hid (h1.below H0W.out)
  have HR2 := Lib.hid (h2.below H0W.out)
  clear h1 h2
  go_wp2_with (first
    | ((with_reducible refine ld_gate 30 rfl ?_); refine wpList_load_row rfl 30 _ rfl g1 rfl 30 _ (0, 0) _ ((HB.out.block _ lg1).trans HHg1.out) Try.underlying30 rfl size30 ?_)
    | (go_at_call 36; refine (HC.out _ (HR1.out.below HB.out) (HR2.out.below HB.out) hm1 hm2).mono ?_; rintro e_ w1 ⟨rfl, hb_⟩; have HB_ := Lib.hid (bl_then2 (by (repeat (with_reducible first | exact HB.out | apply bl_alloc2 | apply bl_drew2 | apply bl_drewN2))) hb_); clear HB hb_; (try clear hq); have HB := HB_; clear HB_; have hq := CB.of HB.out))
  obtain ⟨B1, o1, rfl, hlb1, a0, a1, a2, a3⟩ := HR1.out.snd i hi
  obtain ⟨B2, o2, rfl, hlb2, d0, d1, d2, d3⟩ := HR2.out.snd k hk
  go_region_held3 (fun w' => (∀ j, w'.cell? ⟨g1, j, none⟩ = #[Value.int IntKind.i64 b.law.first, Value.int IntKind.i64 b.law.step, Value.int IntKind.i64 b.law.span, Value.int IntKind.i64 b.law.press, Value.int IntKind.i64 b.note, Value.slice (some ⟨B1, o1, none⟩) b.lows.length c1, Value.slice (some ⟨B2, o2, none⟩) b.highs.length c2, Value.int IntKind.i64 b.tip.mn, Value.int IntKind.i64 b.tip.mx, Value.int IntKind.i64 b.root.mn, Value.int IntKind.i64 b.root.mx, Value.int IntKind.i64 b.f.up.mn, Value.int IntKind.i64 b.f.up.mx, Value.int IntKind.i64 b.f.down.mn, Value.int IntKind.i64 b.f.down.mx, Value.int IntKind.i64 b.f.tipw.mn, Value.int IntKind.i64 b.f.tipw.mx, Value.int IntKind.i64 b.f.rootw.mn, Value.int IntKind.i64 b.f.rootw.mx, Value.int IntKind.i64 b.f.least, Value.int IntKind.i64 b.meter][j]?) ∧ w'.cell? ⟨B1, o1 + i * 4, none⟩ = some (.int .i64 b.lows[i].tone.mn) ∧ w'.cell? ⟨B1, o1 + i * 4 + 1, none⟩ = some (.int .i64 b.lows[i].tone.mx) ∧ w'.cell? ⟨B1, o1 + i * 4 + 2, none⟩ = some (.int .i64 b.lows[i].slope.mn) ∧ w'.cell? ⟨B1, o1 + i * 4 + 3, none⟩ = some (.int .i64 b.lows[i].slope.mx) ∧ w'.cell? ⟨B2, o2 + k * 4, none⟩ = some (.int .i64 b.highs[k].tone.mn) ∧ w'.cell? ⟨B2, o2 + k * 4 + 1, none⟩ = some (.int .i64 b.highs[k].tone.mx) ∧ w'.cell? ⟨B2, o2 + k * 4 + 2, none⟩ = some (.int .i64 b.highs[k].slope.mn) ∧ w'.cell? ⟨B2, o2 + k * 4 + 3, none⟩ = some (.int .i64 b.highs[k].slope.mx))
    (first | exact ⟨fun j => (hq.1 _ j lg1).trans (kg1 j), (hq.1 _ _ hlb1).trans a0, (hq.1 _ _ hlb1).trans a1, (hq.1 _ _ hlb1).trans a2, (hq.1 _ _ hlb1).trans a3, (hq.1 _ _ hlb2).trans d0, (hq.1 _ _ hlb2).trans d1, (hq.1 _ _ hlb2).trans d2, (hq.1 _ _ hlb2).trans d3⟩ | exact ⟨fun j => ((CB.of (bl_drew HB.out)).1 _ j lg1).trans (kg1 j), ((CB.of (bl_drew HB.out)).1 _ _ hlb1).trans a0, ((CB.of (bl_drew HB.out)).1 _ _ hlb1).trans a1, ((CB.of (bl_drew HB.out)).1 _ _ hlb1).trans a2, ((CB.of (bl_drew HB.out)).1 _ _ hlb1).trans a3, ((CB.of (bl_drew HB.out)).1 _ _ hlb2).trans d0, ((CB.of (bl_drew HB.out)).1 _ _ hlb2).trans d1, ((CB.of (bl_drew HB.out)).1 _ _ hlb2).trans d2, ((CB.of (bl_drew HB.out)).1 _ _ hlb2).trans d3⟩ | exact ⟨fun j => ((CB.of (bl_alloc HB.out _)).1 _ j lg1).trans (kg1 j), ((CB.of (bl_alloc HB.out _)).1 _ _ hlb1).trans a0, ((CB.of (bl_alloc HB.out _)).1 _ _ hlb1).trans a1, ((CB.of (bl_alloc HB.out _)).1 _ _ hlb1).trans a2, ((CB.of (bl_alloc HB.out _)).1 _ _ hlb1).trans a3, ((CB.of (bl_alloc HB.out _)).1 _ _ hlb2).trans d0, ((CB.of (bl_alloc HB.out _)).1 _ _ hlb2).trans d1, ((CB.of (bl_alloc HB.out _)).1 _ _ hlb2).trans d2, ((CB.of (bl_alloc HB.out _)).1 _ _ hlb2).trans d3⟩ | exact ⟨fun j => ((CB.of (bl_alloc (bl_alloc HB.out _) _)).1 _ j lg1).trans (kg1 j), ((CB.of (bl_alloc (bl_alloc HB.out _) _)).1 _ _ hlb1).trans a0, ((CB.of (bl_alloc (bl_alloc HB.out _) _)).1 _ _ hlb1).trans a1, ((CB.of (bl_alloc (bl_alloc HB.out _) _)).1 _ _ hlb1).trans a2, ((CB.of (bl_alloc (bl_alloc HB.out _) _)).1 _ _ hlb1).trans a3, ((CB.of (bl_alloc (bl_alloc HB.out _) _)).1 _ _ hlb2).trans d0, ((CB.of (bl_alloc (bl_alloc HB.out _) _)).1 _ _ hlb2).trans d1, ((CB.of (bl_alloc (bl_alloc HB.out _) _)).1 _ _ hlb2).trans d2, ((CB.of (bl_alloc (bl_alloc HB.out _) _)).1 _ _ hlb2).trans d3⟩ | go_keep)
    (first | (go_at_call 37; rw [HP.out]; refine (beats_calls _ _ _ P _ _ _ _ _ _ _ _ _ (by omega) (by omega) (by omega)).mono ?_; rintro e_ w1 ⟨v, rfl, hown, hb_⟩; have HO := Lib.hid hown; have hsz := HB.out.size; clear hown; have HB_ := Lib.hid (bl_then2 (by (repeat (with_reducible first | exact HB.out | apply bl_alloc2 | apply bl_drew2 | apply bl_drewN2))) hb_); clear HB; (try clear hq); have HB := HB_; clear HB_; have hq := CB.of HB.out))
  go_wp2
  go_ret2
  exact ⟨v, rfl, own_weaken HO.out (Nat.le_trans H0W.out.size hsz), by (repeat (first | exact bl_then H0W.out HB.out | exact H0W.out | exact HB.out | exact Below.refl _ _ | refine bl_set ?_ (by assumption) _ | refine bl_alloc ?_ _ | refine bl_drew ?_ | refine bl_drewN ?_ _))⟩

end Go.Proofs.Ytnclljamcfoolaa
namespace Go.Proofs.Ytnclljamcfoolaa
open Go.RowKit
set_option linter.unusedVariables false
set_option linter.unusedSimpArgs false

theorem row_one {α : Type} {enc : α → List Value} {sz : Nat} {W : World} {g : Nat} {cs : Array Value} (x : α) (he : enc x = cs.toList) (h : ∀ j, W.cell? ⟨g, j, none⟩ = cs[j]?) : Row enc sz W (some ⟨g, 0, none⟩) [x] := by
  refine .inr ⟨g, 0, rfl, fun i y hy j v hv => ?_⟩
  match i with
  | 0 =>
    obtain rfl : x = y := by simpa using hy
    rw [he] at hv
    rw [show 0 + 0 * sz + j = j by omega, h j]
    simpa using hv
  | i + 1 => simp at hy

def awBox : Box := ⟨⟨14, 0, 0, 0⟩, 0, [⟨⟨0, 0⟩, ⟨0, 0⟩⟩], [⟨⟨14, 15⟩, ⟨0, 0⟩⟩], ⟨0, 0⟩, ⟨0, 0⟩, ⟨⟨0, 0⟩, ⟨0, 0⟩, ⟨0, 0⟩, ⟨0, 0⟩, 0⟩, 0⟩
theorem awBox_ok : boxErr awBox = 0 := by decide
def awEar : Ear := ⟨0, [⟨500, 500⟩, ⟨510, 515⟩], []⟩
theorem awEar_ok : earErr awEar = 0 := by decide

theorem awBeats_calls (w : World) (b c : Nat) (h1 : Row Rg.cs 2 w (some ⟨b, 0, none⟩) awEar.tones) (hb : b < w.heap.size) :
    Calls Try.prog 10 #[.agg #[.int .i64 0, .slice (some ⟨b, 0, none⟩) 2 c, .slice none 0 0], .int .i64 0, .int .i64 1, .int .i64 10] w fun ed w' => ed = .returned (.tuple #[.agg #[.int .i64 1, .int .i64 1], .int .i64 0]) ∧ Below w.heap.size w w' := by
  have hlen : (allTruths (fun _ => true) awEar).length ≤ 1000000 := Nat.le_trans (allTruths_len _ awEar_ok) (by decide)
  have h := Beats01 awEar b 0 c none 0 10 (by decide) awEar_ok rfl (by decide) (by decide) (truths2_ok (x := ⟨500, 500⟩) (y := ⟨510, 515⟩) rfl awEar_ok) hlen w h1 hb
  obtain ⟨e1, e2⟩ := beats_law awEar ⟨500, 500⟩ ⟨510, 515⟩ rfl awEar_ok 10 (by decide) _ (List.getElem_mem (allTruths_pos awEar_ok))
  rw [e1, e2] at h
  exact h
set_option maxRecDepth 100000 in
set_option maxHeartbeats 1000000 in
theorem beatsAwake_calls (w : World) :
    Calls Try.prog 7 #[] w fun e w' => e = .returned (.bool true) ∧ Below w.heap.size w w' := by
  go_enter Try.func7, Try.ntmps7
  go_upto_region 2 with ((with_reducible refine st_gate 30 rfl ?_); refine wpList_store_row rfl 30 _ _ rfl (w.heap.size + 1 + 1) _ rfl rfl 30 _ (heap_alloc_at _ _ _ (by simp)) size30 (by simp) (by simp [Value.oneCell']) ?_)
  generalize hW : ((w.alloc _).alloc _).alloc _ = V
  generalize h3_ : w.heap.size + 1 + 1 = g3
  generalize h2_ : w.heap.size + 1 = g2
  generalize h1_ : w.heap.size = g1
  obtain ⟨hB0_, Hg1, Hg2, Hg3, kg1, kg2, kg3, fg1, fg2, fg3, lg1, lg2, lg3, bg1, bg2, bg3, ng12, ng13, ng21, ng23, ng31, ng32⟩ := gen3 w _ _ _ _ _ _ hW h3_ h2_ h1_
  clear hW h1_ h2_ h3_
  have H0V := Lib.hid hB0_
  clear hB0_
  have HHg1 := Lib.hid Hg1
  have HHg2 := Lib.hid Hg2
  have HHg3 := Lib.hid Hg3
  clear Hg1 Hg2 Hg3
  generalize hU : V.setRow g3 _ = U
  have hUg := Lib.hid (hU ▸ setRow_heap HHg3.out)
  have hwr : Wrote V U g3 := hU ▸ wrote_setRow V g3 _
  have hUb := Lib.hid (hwr.below H0V.out bg3)
  have hn1 : g1 ≠ g3 := by intro h; rw [h] at ng13; exact ng13 ▸ rfl
  have hn2 : g2 ≠ g3 := by intro h; rw [h] at ng23; exact ng23 ▸ rfl
  have HR1 := Lib.hid (row_one (enc := Snd.cs) (sz := 4) ⟨⟨0, 0⟩, ⟨0, 0⟩⟩ rfl (fun j => (hwr.cell hn1 j).trans (kg1 j)))
  have HR2 := Lib.hid (row_one (enc := Snd.cs) (sz := 4) ⟨⟨14, 15⟩, ⟨0, 0⟩⟩ rfl (fun j => (hwr.cell hn2 j).trans (kg2 j)))
  clear hU hwr hn1 hn2 kg1 kg2 kg3 fg1 fg2 fg3 lg1 lg2 lg3 ng12 ng13 ng21 ng23 ng31 ng32 HHg1 HHg2 HHg3 bg1 bg2 bg3
  have HB := Lib.hid (Below.refl U.heap.size U)
  have hB := Lib.hid (Beat_calls awBox (some ⟨g1, 0, none⟩) (some ⟨g2, 0, none⟩) 1 1 0 0 (by decide) (by decide) 0 rfl awBox_ok)
  go_upto_region 3 with (first
    | ((with_reducible refine ld_gate 30 rfl ?_); refine wpList_load_row rfl 30 _ rfl g3 rfl 30 _ (0, 0) _ hUg.out Try.underlying30 rfl size30 ?_)
    | (go_at_call 8; (refine (hB.out _ HR1.out HR2.out (by decide) (by decide)).mono ?_; rintro e_ w1 ⟨v, rfl, hown, hb_⟩; obtain ⟨gq, capq, hvq⟩ := row_slice hown (by decide); subst hvq; have HO := Lib.hid hown; clear hown; have HB_ := Lib.hid (bl_then2 (by (repeat (with_reducible first | exact HB.out | apply bl_alloc2 | apply bl_drew2 | apply bl_drewN2))) hb_); clear HB hb_; (try clear hq); have HB := HB_; clear HB_; have hq := CB.of HB.out)))
  have HRv := Lib.hid (row_of_own (enc := Rg.cs) (sz := 2) (fun _ => rfl) HO.out)
  have HU1 := Lib.hid (bl_then hUb.out HB.out)
  clear HO HB hq hUb HR1 HR2 hUg hB H0V
  have HB := Lib.hid (Below.refl w1.heap.size w1)
  go_upto_region 4 with (first
    | (go_at_call 10; (refine (awBeats_calls _ _ _ (row_new2 _ ⟨500, 500⟩ ⟨510, 515⟩) (by simp)).mono ?_; rintro e_ w2 ⟨rfl, hb_⟩; have HB_ := Lib.hid (bl_then2 (by (repeat (with_reducible first | exact HB.out | apply bl_alloc2 | apply bl_drew2 | apply bl_drewN2))) hb_); clear HB hb_; (try clear hq); have HB := HB_; clear HB_; have hq := CB.of HB.out))
    | ((with_reducible refine st_gate 26 rfl ?_); refine wpList_store_row rfl 26 _ _ rfl _ _ rfl rfl 26 _ (heap_alloc_at _ _ _ rfl) size26m (by simp) (by simp [Value.oneCell']) ?_))
  generalize hg4 : w2.heap.size = g4
  generalize hX : (w2.alloc _).setRow g4 _ = X
  have HHg4 := Lib.hid (hX ▸ setRow_heap (heap_alloc_at w2 _ g4 hg4.symm))
  have HBX : Below w1.heap.size w1 X := hX ▸ bl_setRow (bl_alloc HB.out _) (hg4 ▸ HB.out.size) _
  have lg4 : g4 < X.heap.size := (Array.getElem?_eq_some_iff.1 HHg4.out).1
  have HU2 := Lib.hid (bl_then HU1.out HBX)
  have hS := (same_calls (beatsOf awBox 0 0 (by decide) (by decide) (0 + 1)) [⟨14, 15⟩] (some ⟨gq, 0, none⟩) (some ⟨X.heap.size, 0, none⟩) capq 1 (by decide) (X.alloc (.cells #[.int .i64 14, .int .i64 15] 26)) ((HRv.out.below HBX).below (bl_alloc (Below.refl _ _) _)) (row_one _ rfl fun j => cell_of_row _ _ j _ _ _ (heap_new X _)))
  rw [show sameAt (beatsOf awBox 0 0 (by decide) (by decide) (0 + 1)) [⟨14, 15⟩] (beatsOf awBox 0 0 (by decide) (by decide) (0 + 1)).length = true from by decide] at hS
  have HS := Lib.hid hS
  have kg4 : ∀ j, X.cell? ⟨g4, j, none⟩ = #[Value.int .i64 1, Value.int .i64 1][j]? := fun j => cell_of_row _ _ j _ _ _ HHg4.out
  clear hX hg4 HB hq HU1 HBX HRv hS HHg4
  have HB := Lib.hid (Below.refl X.heap.size X)
  go_wp2_with (first
    | (go_at_call 35; (refine HS.out.mono ?_; rintro e_ w3 ⟨rfl, hb_⟩; have HB_ := Lib.hid (bl_then2 (by (repeat (with_reducible first | exact HB.out | apply bl_alloc2 | apply bl_drew2 | apply bl_drewN2))) hb_); clear HB hb_; (try clear hq); have HB := HB_; clear HB_; have hq := CB.of HB.out)))
  go_ret
  exact ⟨rfl, bl_then HU2.out (by (repeat (with_reducible first | exact HB.out | apply bl_alloc2 | apply bl_drew2 | apply bl_drewN2)))⟩

end Go.Proofs.Ytnclljamcfoolaa
