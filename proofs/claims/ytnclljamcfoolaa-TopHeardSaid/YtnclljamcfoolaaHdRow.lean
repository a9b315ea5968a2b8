/- musettetop.TopHeard: for every input the law returns true, and each argument reads afterwards as it read before. No condition. -/
import Derived.Test.YtnclljamcfoolaaHd15
import Derived.Test.YtnclljamcfoolaaRows
import Derived.WalkKit
import Derived.ProofKit
import Derived.OpenShut
import Derived.ChangeOld
import Derived.Below
import Derived.SizedLaws
namespace Go.Proofs.Ytnclljamcfoolaa
open Go.ChangeShapes Go.WideShapes Go.ChangeAt Go.RowKit
set_option linter.unusedVariables false
set_option linter.unusedSimpArgs false

theorem own_prog : ownKnob Try.prog.godebug = none := by kernel_rfl
theorem laidOut_prog : laidOutB Try.prog = true := by kernel_rfl

theorem ct_err {c : Ct} (h : c.Ok) : readErr c.rd 1 = 0 := by
  obtain ⟨a1, a2, a3, a4, a5⟩ := h
  have b2 : c.shown.mn ≤ 25000 := by omega
  have b3 : 0 ≤ c.shown.mx := by omega
  have b4 : ¬ c.shown.mx < c.shown.mn := by omega
  simp [readErr, Ct.rd, inB, *]
theorem earC_more {slack : Int} {x : Rg} {ls : List Ct} {c : Ct} (he : earErr (earC slack x ls) = 0) (hc : c.Ok) (hl : ls.length < 6) : earErr (earC slack x (ls ++ [c])) = 0 := by
  have h0 := he
  unfold earErr earC at he
  simp only [List.length_cons, List.length_nil, List.length_map] at he
  split at he
  · cases he
  next k1 =>
  split at he
  · cases he
  split at he
  · cases he
  split at he
  · next h => exact absurd he h
  next k4 =>
  split at he
  · cases he
  have hr : ∀ r ∈ (ls ++ [c]).map Ct.rd, readErr r 1 = 0 := by
    intro r hr
    rw [List.map_append, List.mem_append] at hr
    rcases hr with hr | hr
    · exact (firstErr_zero _ _).1 (by simpa using he) r hr
    · simp at hr; subst hr; exact ct_err hc
  have hr2 := (firstErr_zero (fun r => readErr r 1) ((ls ++ [c]).map Ct.rd)).2 hr
  refine earErr_reads (e := earC slack x (ls ++ [c])) ⟨by simpa [earC] using k1, by simp [earC], by simp [earC]⟩ (by simpa [earC] using k4) (by simp [earC]; omega) (by simpa [earC] using hr2)

theorem topHeard_calls (j : Job) (A : Option Addr) (c : Nat) (e : Ear) (A1 A2 : Option Addr) (c1 c2 : Nat) (hA : (A2 = none ∧ c2 = 0 ∧ e.reads = []) ∨ ∃ ad, A2 = some ad) (r : Rd) (due : Int) (w : World) (h1 : Row Rg.cs 2 w A1 e.tones) (h2 : Row Rd.cs 6 w A2 e.reads) (h3 : Row Rg.cs 2 w A j.shifts) (hm1 : e.tones.length ≤ 1000000000000000) (hm2 : e.reads.length ≤ 1000000000000000) (hm : j.shifts.length ≤ 1000000000000000) :
    Calls Try.prog 4 #[j.v A c, .agg #[.int .i64 e.slack, .slice A1 e.tones.length c1, .slice A2 e.reads.length c2], r.v, .int .i64 due] w fun ed w' => ed = .returned (.bool true) ∧ Below w.heap.size w w' := by
  by_cases hbad : ¬ earErr e = 0 ∨ due < 1 ∨ 100000 < due ∨ e.tones.length ≠ 1
  · exact topHeard_bad j A c e A1 A2 c1 c2 r due w h1 h2 hm1 hm2 hbad
  have he : earErr e = 0 := by omega
  have hd : 1 ≤ due ∧ due ≤ 100000 := by omega
  obtain ⟨x, ls, hee, hls, hl6⟩ := earC_of he (by omega)
  obtain ⟨slack, hsl⟩ : ∃ s, e.slack = s := ⟨_, rfl⟩
  rw [hsl] at hee
  subst hee
  obtain ⟨b, o, rfl⟩ : ∃ b o, A1 = some ⟨b, o, none⟩ := by
    rcases h1 with h1 | ⟨b, o, hA1, -⟩
    · cases h1
    · exact ⟨b, o, hA1⟩
  have h1' : Row Rg.cs 2 w (some ⟨b, o, none⟩) [x] := h1
  have h2' : Row Rd.cs 6 w A2 (ls.map Ct.rd) := h2
  have hA' : (A2 = none ∧ c2 = 0 ∧ ls = []) ∨ ∃ ad, A2 = some ad := by
    rcases hA with ⟨a, b, h⟩ | h
    · exact .inl ⟨a, b, by simpa [earC] using h⟩
    · exact .inr h
  show Calls Try.prog 4 #[j.v A c, .agg #[.int .i64 slack, .slice (some ⟨b, o, none⟩) 1 c1, .slice A2 (ls.map Ct.rd).length c2], r.v, .int .i64 due] w _
  rw [List.length_map]
  by_cases hE : readErr r 1 ≠ 0
  · exact topHeard_err j A c slack x ls r due hd hl6 he b o c1 A2 c2 w h1' h2' _ hE (fun w h1 h2 => with13_bad slack x ls r hl6 he b o c1 A2 c2 w h1 h2 _ rfl hE) (fun w h1 h2 => with14_bad slack x ls r hl6 he b o c1 A2 c2 w h1 h2 _ rfl hE)
  have hE0 : readErr r 1 = 0 := by omega
  by_cases h6 : ls.length = 6
  · exact topHeard_err j A c slack x ls r due hd hl6 he b o c1 A2 c2 w h1' h2' 6 (by decide) (fun w h1 h2 => with13_many slack x ls r h6 he b o c1 A2 c2 w h1 h2 hE0) (fun w h1 h2 => with14_many slack x ls r h6 he b o c1 A2 c2 w h1 h2 hE0)
  obtain ⟨ct, hct, rfl⟩ := readErr_ct hE0
  have hl : ls.length < 6 := by omega
  cases hK : keptC slack x (ls ++ [ct]) with
  | nil =>
    refine topHeard_err j A c slack x ls ct.rd due hd hl6 he b o c1 A2 c2 w h1' h2' 9 (by decide) (fun w h1 h2 => (with13_ok slack x ls ct hl he hls hct b o c1 A2 c2 hA' w h1 h2).mono fun ed w' h => ?_) (fun w h1 h2 => (with14_ok slack x ls ct hl he hls hct b o c1 A2 c2 hA' w h1 h2).mono fun ed w' h => ?_)
    all_goals
      obtain ⟨⟨v, k, rfl, HH⟩, hb⟩ := h
      rcases HH.out with ⟨-, rfl, rfl⟩ | ⟨hn, -⟩
      · exact ⟨rfl, hb⟩
      · exact absurd hK hn
  | cons t1 k1 =>
    have ht1 : t1 ∈ keptC slack x ls := keptC_sub (c := ct) (by rw [hK]; exact List.mem_cons_self)
    cases hK0 : keptC slack x ls with
    | nil => rw [hK0] at ht1; cases ht1
    | cons t0 k0 =>
      have hsub : ∀ u ∈ t1 :: k1, u ∈ t0 :: k0 := fun u hu => by rw [← hK0]; rw [← hK] at hu; exact keptC_sub hu
      have hin : inR (rngOf (t0 :: k0) t0) (rngOf (t1 :: k1) t1) := rngOf_in hsub List.mem_cons_self
      have hord := rngOf_ord (t1 :: k1) t1
      have hin' : inR (lessD (rngOf (t0 :: k0) t0) due) (lessD (rngOf (t1 :: k1) t1) due) := by unfold inR lessD at *; simp only; omega
      refine topHeard_main j (j.withP (lessD (rngOf (t0 :: k0) t0) due)) (j.withP (lessD (rngOf (t1 :: k1) t1) due)) A c rfl rfl ?_ (fun hj => heard_law j _ _ hin' (by unfold lessD; simp only; omega) hj) slack x ls (ls ++ [ct]) ct.rd due hd hl6 he b o c1 A2 c2 w h1' h2' h3 hm (fun w h1 h2 => (with13_ok slack x ls ct hl he hls hct b o c1 A2 c2 hA' w h1 h2).mono fun ed w' h => ?_) (fun w h1 h2 => (with14_ok slack x ls ct hl he hls hct b o c1 A2 c2 hA' w h1 h2).mono fun ed w' h => ?_)
        (fun w h1 h2 => job_calls j A c due hd slack x ls hls hl6 he b o c1 A2 c2 w h1 h2 t0 k0 hK0)
        (fun g c1 A2 c2 w h1 h2 => job_calls j A c due hd slack x (ls ++ [ct]) (fun q hq => by rcases List.mem_append.1 hq with h | h; exact hls q h; simp at h; subst h; exact hct) (by simp; omega) (earC_more he hct hl) g 0 c1 A2 c2 w h1 h2 t1 k1 hK)
      · unfold inR at hin'
        have e1 := decide_eq_true hin'.1
        have e2 := decide_eq_true hin'.2
        show (decide ((lessD (rngOf (t0 :: k0) t0) due).mn ≤ (lessD (rngOf (t1 :: k1) t1) due).mn) && decide ((lessD (rngOf (t1 :: k1) t1) due).mx ≤ (lessD (rngOf (t0 :: k0) t0) due).mx)) = true
        rw [e1, e2]
        rfl
      all_goals
        obtain ⟨⟨v, k, rfl, HH⟩, hb⟩ := h
        rcases HH.out with ⟨hn, -⟩ | ⟨-, rfl, hM⟩
        · rw [hK] at hn; cases hn
        · exact ⟨v, rfl, Lib.hid hM, hb⟩

set_option maxRecDepth 100000 in
theorem heard_lifted (os : Os) (started : os.Started) (H : Type) (enc : TypeId × Value → H) :
    ReturnsInHanded {} Try.checked os 4 .any (Rows.topHeardSpec.pre6 enc Try.prog Try.f4 Rows.topHeardRow.domain false) (Rows.topHeardSpec.post enc Try.prog Try.f4 false true false false) := by
  refine returnsInHanded_of_change_sized (C := Try.checked) own_prog started (by kernel_rfl) Try.func4
    (ChangeSpec.witness6 (enc := enc) (C := Try.checked) false ⟨#[], #[.agg #[.int .i64 0, .int .i64 0, .int .i64 0, .int .i64 0, .int .i64 0, .int .i64 0, .int .i64 0, .int .i64 0, .int .i64 0, .int .i64 0, .int .i64 0, .int .i64 0, .int .i64 0, .int .i64 0, .int .i64 0, .slice none 0 0, .int .i64 0, .int .i64 0], .agg #[.int .i64 0, .slice none 0 0, .slice none 0 0], .agg #[.int .i64 0, .int .i64 0, .int .i64 0, .int .i64 0, .int .i64 0, .int .i64 0], .int .i64 0], []⟩ 8 (by kernel_rfl) (by kernel_rfl) (by kernel_rfl) (by kernel_rfl)) ?_
  intro W base args ds gs before hval0 hW hcnd hsz _
  have hval : ∀ (j : Nat) t v, Try.f4.params[j]? = some t → args[j]? = some v → Value.okWide Try.prog W .any base t v := hval0
  have hW' := hW
  obtain ⟨p, q, hA0, hV, rfl, hfz, hnd⟩ := hW
  have hA : DataW.TrodAll enc Try.prog W 0 (fun _ => true) true Try.f4.params.toList args.toList ds p := hA0
  rw [Try.params4] at hA hval hsz
  obtain ⟨v0, vs0, d0, ds0, p0, q0, hargs, rfl, rfl, h0, r0⟩ := trodAll_cons hA
  obtain ⟨v1, vs1, d1, ds1, p1, q1, rfl, rfl, rfl, h1, r1⟩ := trodAll_cons r0
  obtain ⟨v2, vs2, d2, ds2, p2, q2, rfl, rfl, rfl, h2, r2⟩ := trodAll_cons r1
  obtain ⟨v3, vs3, d3, ds3, p3, q3, rfl, rfl, rfl, h3, r3⟩ := trodAll_cons r2
  obtain ⟨rfl, rfl, rfl⟩ := trodAll_nil r3
  obtain rfl : args = #[v0, v1, v2, v3] := by cases args; simp_all
  obtain ⟨rfl, rfl⟩ := trodVars_none hV
  have k0 := h0
  have k1 := h1
  have k2 := h2
  have lt0 : ∀ x ∈ p0, x.block < W.heap.size := by obtain ⟨m, hm⟩ := k0; exact DataW.trod_lt m _ _ _ hm
  have lt1 : ∀ x ∈ p1, x.block < W.heap.size := by obtain ⟨m, hm⟩ := k1; exact DataW.trod_lt m _ _ _ hm
  have lt2 : ∀ x ∈ p2, x.block < W.heap.size := by obtain ⟨m, hm⟩ := k2; exact DataW.trod_lt m _ _ _ hm
  obtain ⟨j, A, c, rfl, hR, hm⟩ := open_job (hval 0 51 v0 rfl rfl) h0 (size_arg hsz (j := 0) rfl rfl)
  obtain ⟨e, A1, A2, c1, c2, rfl, hR1, hR2, hm1, hm2, hA2⟩ := open_ear (hval 1 41 v1 rfl rfl) h1 (size_arg hsz (j := 1) rfl rfl)
  obtain ⟨r, rfl⟩ := open_reading (hval 2 53 v2 rfl rfl) h2 (size_arg hsz (j := 2) rfl rfl)
  obtain ⟨a3, rfl, rfl, rfl, w3⟩ := open_int Try.underlying3 (hval 3 3 v3 rfl rfl) h3
  clear hA0 hval0
  refine (topHeard_calls j A c e A1 A2 c1 c2 hA2 r a3 W hR1 hR2 hR hm1 hm2 hm).mono fun e W' ⟨he, bel⟩ => ?_
  subst he
  exact ⟨_, rfl, _, _, _, [], _, [], hW', trodAll_mk1 (shut_bool Try.underlying4 _), (trodAll_cons_mk (Below.trod laidOut_prog (by kernel_rfl) (of_decide_eq_true (by kernel_rfl)) k0 bel lt0) (trodAll_cons_mk (Below.trod laidOut_prog (by kernel_rfl) (of_decide_eq_true (by kernel_rfl)) k1 bel lt1) (trodAll_cons_mk (Below.trod laidOut_prog (by kernel_rfl) (of_decide_eq_true (by kernel_rfl)) k2 bel lt2) (trodAll_cons_mk (shut_int Try.underlying3 w3) trodAll_mk0)))), rfl, bel.frame _, fun h => by cases h⟩

theorem heard_over : Rows.topHeardRow.holds Try.pinned (OpenSpec.ofChange Rows.topHeardSpec) :=
  OpenClaim.holds_of_wide 4 Try.f4 rfl rfl rfl rfl rfl rfl rfl ⟨rfl, rfl, rfl, rfl, rfl⟩ rfl rfl rfl rfl rfl (by kernel_rfl) Try.func4 (by kernel_rfl)
    (of_decide_eq_true (by kernel_rfl)) (by unfold Func.isWrapper; first | (rw [if_pos (by decide +kernel)]; kernel_rfl) | (rw [if_neg (by decide +kernel)]; exact ⟨rfl, rfl⟩))
    (fun os started H enc _ => heard_lifted os started H enc)

theorem topHeard_holds : Rows.TopHeardSaid := heard_over
end Go.Proofs.Ytnclljamcfoolaa
