/- Walks of the game of package reed: what stops (reed.play$1), given the first stroke. Walk of reed.game.stroke: the first stroke with which a tuner can be sure to stop. Walk of reed.readings$1: what can be known of a pitch when a meter has been read, one after the other. Walk of reed.game.reads: can a tuner who is to read the meter be sure to stop? Walks of reed.play and reed.Guided: the fewest strokes with which a tuner at work can be sure to stop. -/
import Derived.Test.YtnclljamcfoolaaHd8
import Derived.WalkMore
namespace Go.Proofs.Ytnclljamcfoolaa
open Go.RowKit
set_option linter.unusedVariables false
set_option linter.unusedSimpArgs false

/-- the game lies in memory: the game itself, the box of the memo, and a memo that is right -/
structure GI (j : Job) (A : Option Addr) (c : Nat) (u : Rg) (bg bm mb : Nat) (W : World) : Prop where
  game : W.heap[bg]? = some (.cells #[Value.int IntKind.i64 j.t.pitch.mn, Value.int IntKind.i64 j.t.pitch.mx, Value.int IntKind.i64 j.t.tip.mn, Value.int IntKind.i64 j.t.tip.mx, Value.int IntKind.i64 j.t.root.mn, Value.int IntKind.i64 j.t.root.mx, Value.int IntKind.i64 j.f.up.mn, Value.int IntKind.i64 j.f.up.mx, Value.int IntKind.i64 j.f.down.mn, Value.int IntKind.i64 j.f.down.mx, Value.int IntKind.i64 j.f.tipw.mn, Value.int IntKind.i64 j.f.tipw.mx, Value.int IntKind.i64 j.f.rootw.mn, Value.int IntKind.i64 j.f.rootw.mx, Value.int IntKind.i64 j.f.least, Value.slice A j.shifts.length c, Value.int IntKind.i64 j.within, Value.int IntKind.i64 j.meter, Value.int IntKind.i64 u.mn, Value.int IntKind.i64 u.mx, Value.func (.func 90) #[] #[.pointer (some ⟨bg, 0, none⟩), .pointer (some ⟨bm, 0, none⟩)]] 106 (0, 0))
  box : W.heap[bm]? = some (.cells #[.map (some mb)] 143 (0, 0))
  memo : ∃ es clock, W.heap[mb]? = some (.map es clock) ∧ ∀ e ∈ es.toList, Good (fun p t r l => stopsR j u l p t r) e
theorem GI.lt {j : Job} {A : Option Addr} {c : Nat} {u : Rg} {bg bm mb : Nat} {W : World} (h : GI j A c u bg bm mb W) : bg < W.heap.size ∧ bm < W.heap.size ∧ mb < W.heap.size := by
  obtain ⟨es, clock, hm, -⟩ := h.memo
  exact ⟨(Array.getElem?_eq_some_iff.1 h.game).1, (Array.getElem?_eq_some_iff.1 h.box).1, (Array.getElem?_eq_some_iff.1 hm).1⟩
theorem GI.ne {j : Job} {A : Option Addr} {c : Nat} {u : Rg} {bg bm mb : Nat} {W : World} (h : GI j A c u bg bm mb W) : bg ≠ mb ∧ bm ≠ mb := by
  obtain ⟨es, clock, hm, -⟩ := h.memo
  exact ⟨fun e => by have := h.game; rw [e, hm] at this; simp at this, fun e => by have := h.box; rw [e, hm] at this; simp at this⟩
theorem GI.below {j : Job} {A : Option Addr} {c : Nat} {u : Rg} {bg bm mb : Nat} {W W' : World} (h : GI j A c u bg bm mb W) (hb : Below W.heap.size W W') : GI j A c u bg bm mb W' := by
  obtain ⟨l1, l2, l3⟩ := h.lt
  obtain ⟨es, clock, hm, hg⟩ := h.memo
  exact ⟨(hb.block _ l1).trans h.game, (hb.block _ l2).trans h.box, es, clock, (hb.block _ l3).trans hm, hg⟩
/-- nothing turns but the memo -/
structure GS (mb : Nat) (W W' : World) : Prop where
  os : W'.os = W.os
  tape : W'.tape = W.tape
  output : W'.output = W.output
  size : W.heap.size ≤ W'.heap.size
  block : ∀ k, k < W.heap.size → k ≠ mb → W'.heap[k]? = W.heap[k]?
theorem GS.of_below {mb : Nat} {W W' : World} (h : Below W.heap.size W W') : GS mb W W' := ⟨h.os, h.tape, h.output, h.size, fun k hk _ => h.block k hk⟩
theorem GS.trans {mb : Nat} {W W1 W2 : World} (h : GS mb W W1) (k : GS mb W1 W2) : GS mb W W2 :=
  ⟨k.os.trans h.os, k.tape.trans h.tape, k.output.trans h.output, Nat.le_trans h.size k.size, fun b hb hn => (k.block b (Nat.lt_of_lt_of_le hb h.size) hn).trans (h.block b hb hn)⟩
theorem GS.cell {mb : Nat} {W W' : World} (h : GS mb W W') {b : Nat} (hb : b < W.heap.size) (hn : b ≠ mb) (o : Nat) : W'.cell? ⟨b, o, none⟩ = W.cell? ⟨b, o, none⟩ := World.cell?_of_block (w := W) (a := ⟨b, o, none⟩) (h.block b hb hn)
theorem GI.put {j : Job} {A : Option Addr} {c : Nat} {u : Rg} {bg bm mb : Nat} {W : World} (h : GI j A c u bg bm mb W) {es : Array MapEntry} {clock : Nat} (hg : ∀ e ∈ es.toList, Good (fun p t r l => stopsR j u l p t r) e) : GI j A c u bg bm mb (W.putObj mb (.map es clock)) :=
  ⟨(World.putObj_heap_other h.ne.1).trans h.game, (World.putObj_heap_other h.ne.2).trans h.box, es, clock, World.putObj_heap_same h.lt.2.2, hg⟩
theorem GS.put (mb : Nat) (W : World) (o : Obj) : GS mb W (W.putObj mb o) := ⟨rfl, rfl, rfl, by simp, fun k _ hn => World.putObj_heap_other hn⟩

/-- what is known, with l strokes left: numbers that are not too great -/
def KP (l t r : Nat) (p : Rg) : Prop := p.mn ≤ p.mx ∧ -(1000 - 100 * (l : Int)) ≤ p.mn ∧ p.mx ≤ 1000 - 100 * (l : Int) ∧ t + r + l ≤ 5
def strokeV (j : Job) (u : Rg) : Nat → Rg → Nat → Nat → Int
  | 0, _, _, _ => 0
  | l + 1, p, t, r => strokeR j (stopsR j u l) p t r
theorem strokeR_cases (j : Job) (s : Rg → Nat → Nat → Bool) (p : Rg) (t r : Nat) : strokeR j s p t r = 0 ∨ strokeR j s p t r = 1 ∨ strokeR j s p t r = 2 := by
  unfold strokeR; split
  · exact .inr (.inl rfl)
  · split
    · exact .inr (.inr rfl)
    · exact .inl rfl
theorem stopsR_eq (j : Job) (u : Rg) (l : Nat) (p : Rg) (t r : Nat) : stopsR j u l p t r = (hasR u p || decide (0 < strokeV j u l p t r)) := by
  cases l with
  | zero => simp [stopsR, strokeV]
  | succ l =>
    unfold stopsR strokeV
    rcases strokeR_cases j (stopsR j u l) p t r with h | h | h <;> simp [h]

def StrokeOk (j : Job) (A : Option Addr) (c : Nat) (u : Rg) (bg bm mb l : Nat) : Prop :=
  ∀ (p : Rg) (t r : Nat) (W : World), KP l t r p → GI j A c u bg bm mb W → Calls Try.prog 74 #[gameV j A c u bg bm, knV p t r l] W fun e W' => e = .returned (.int .i64 (strokeV j u l p t r)) ∧ GI j A c u bg bm mb W' ∧ GS mb W W'
def StopsOk (j : Job) (A : Option Addr) (c : Nat) (u : Rg) (bg bm mb l : Nat) : Prop :=
  ∀ (p : Rg) (t r : Nat) (W : World), KP l t r p → GI j A c u bg bm mb W → Calls Try.prog 90 #[knV p t r l, .pointer (some ⟨bg, 0, none⟩), .pointer (some ⟨bm, 0, none⟩)] W fun e W' => e = .returned (.bool (stopsR j u l p t r)) ∧ GI j A c u bg bm mb W' ∧ GS mb W W'

set_option maxRecDepth 100000 in
set_option maxHeartbeats 4000000 in
theorem stops_of_stroke (j : Job) (A : Option Addr) (c : Nat) (u : Rg) (bg bm mb l : Nat) (hs : StrokeOk j A c u bg bm mb l) : StopsOk j A c u bg bm mb l := by
  intro p t r w hk hG
  have HST := Lib.hid (hs p t r)
  have HK := Lib.hid hk
  obtain ⟨lw1, lw2, lw3⟩ := hG.lt
  obtain ⟨nb1, nb2⟩ := hG.ne
  clear hs hk
  go_enter Try.func90, Try.ntmps90
  go_upto_region 1 with (fail)
  generalize hW : w.alloc _ = W
  generalize h1_ : w.heap.size = g1
  obtain ⟨hB0_, Hg1, kg1, fg1, lg1, bg1⟩ := gen1 w _ _ hW h1_
  clear hW h1_
  have H0W := Lib.hid hB0_
  clear hB0_
  have HHg1 := Lib.hid Hg1
  clear Hg1
  have HG := Lib.hid (hG.below H0W.out)
  clear hG
  have kgm : ∀ j', W.cell? ⟨bg, j', none⟩ = #[Value.int IntKind.i64 j.t.pitch.mn, Value.int IntKind.i64 j.t.pitch.mx, Value.int IntKind.i64 j.t.tip.mn, Value.int IntKind.i64 j.t.tip.mx, Value.int IntKind.i64 j.t.root.mn, Value.int IntKind.i64 j.t.root.mx, Value.int IntKind.i64 j.f.up.mn, Value.int IntKind.i64 j.f.up.mx, Value.int IntKind.i64 j.f.down.mn, Value.int IntKind.i64 j.f.down.mx, Value.int IntKind.i64 j.f.tipw.mn, Value.int IntKind.i64 j.f.tipw.mx, Value.int IntKind.i64 j.f.rootw.mn, Value.int IntKind.i64 j.f.rootw.mx, Value.int IntKind.i64 j.f.least, Value.slice A j.shifts.length c, Value.int IntKind.i64 j.within, Value.int IntKind.i64 j.meter, Value.int IntKind.i64 u.mn, Value.int IntKind.i64 u.mx, Value.func (.func 90) #[] #[.pointer (some ⟨bg, 0, none⟩), .pointer (some ⟨bm, 0, none⟩)]][j']? := fun j' => cell_of_row _ _ j' _ _ _ HG.out.game
  have kbm : W.cell? ⟨bm, 0, none⟩ = some (.map (some mb)) := cell_of_row _ _ 0 _ _ _ HG.out.box
  have lb := Lib.hid HG.out.lt
  have l1 := HG.out.lt.1
  have l2 := HG.out.lt.2.1
  have HB := Lib.hid (Below.refl W.heap.size W)
  obtain ⟨h9, hh9⟩ : ∃ h9, hasR u p = h9 := ⟨_, rfl⟩
  have HH9 := Lib.hid hh9
  have hC := Lib.hid (fun w => hasG_calls u p w)
  rw [hh9] at hC
  clear hh9
  go_upto_if 12 with (go_at_call 89; refine (hC.out _).mono ?_; rintro e_ w1 ⟨rfl, hb_⟩; have HB_ := Lib.hid (bl_then2 (by (repeat (with_reducible first | exact HB.out | apply bl_alloc2 | apply bl_drew2 | apply bl_drewN2))) hb_); clear HB hb_; (try clear hq); have HB := HB_; clear HB_; have hq := CB.of HB.out)
  cases h9 with
  | true =>
    go_wp2_with fail
    go_ret
    exact ⟨ret_bool (by rw [stopsR_eq, HH9.out]; rfl), HG.out.below HB.out, GS.of_below (bl_then H0W.out HB.out)⟩
  | false =>
    go_upto_region 3 with fail
    have HG1 := Lib.hid (HG.out.below HB.out)
    obtain ⟨es, clock, hm, hgd⟩ := HG1.out.memo
    obtain ⟨v, ok, hl, hv⟩ := lookup_kn _ p t r l w1 mb es clock hm hgd
    unfold knV at hl
    have HVV := Lib.hid hv
    clear hm hgd hv
    go_upto_if 19 with fail
    cases ok with
    | true =>
      go_wp2_with fail
      go_ret
      exact ⟨ret_bool (HVV.out (by simp)), HG1.out, GS.of_below (bl_then H0W.out HB.out)⟩
    | false =>
      clear hl HVV
      have kk1 : ∀ j', w1.cell? ⟨g1, j', none⟩ = #[Value.int .i64 p.mn, Value.int .i64 p.mx, Value.int .i64 t, Value.int .i64 r, Value.int .i64 l][j']? := fun j' => (hq.1 _ _ lg1).trans (kg1 j')
      have lg1' := Nat.lt_of_lt_of_le lg1 HB.out.size
      have ng1 : g1 ≠ mb := by omega
      clear kgm kbm hq
      go_upto_region 7 with (first
        | ((with_reducible refine ld_gate 106 rfl ?_); refine wpList_load_row rfl 106 _ rfl bg rfl 106 _ (0, 0) _ HG1.out.game Try.underlying106 rfl size106 ?_)
        | (go_at_call 74; refine (HST.out _ HK.out (HG1.out)).mono ?_; rintro e_ w2 ⟨rfl, hG2, hS2⟩))
      have kk2 : ∀ j', w2.cell? ⟨g1, j', none⟩ = #[Value.int .i64 p.mn, Value.int .i64 p.mx, Value.int .i64 t, Value.int .i64 r, Value.int .i64 l][j']? := fun j' => (hS2.cell lg1' ng1 _).trans (kk1 j')
      have km2 : w2.cell? ⟨bm, 0, none⟩ = some (.map (some mb)) := cell_of_row _ _ 0 _ _ _ hG2.box
      obtain ⟨es, clock, hm, hgd⟩ := hG2.memo
      have he : stopsR j u l p t r = decide (0 < strokeV j u l p t r) := by rw [stopsR_eq, HH9.out]; simp
      obtain ⟨es', clock', hu, hgd'⟩ := update_kn _ p t r l w2 mb es clock hm hgd
      rw [he] at hu
      unfold knV at hu
      have HG2 := Lib.hid hG2
      have HS2 := Lib.hid hS2
      have HGD := Lib.hid hgd'
      have HE := Lib.hid he
      clear kk1 lg1' hm hgd hgd' hG2 hS2 he HST
      go_wp2_with fail
      go_ret
      exact ⟨ret_bool HE.out.symm, HG2.out.put HGD.out, (GS.of_below (bl_then H0W.out HB.out)).trans (HS2.out.trans (GS.put _ _ _))⟩

end Go.Proofs.Ytnclljamcfoolaa
namespace Go.Proofs.Ytnclljamcfoolaa
open Go.RowKit
set_option linter.unusedVariables false
set_option linter.unusedSimpArgs false

/-- a guarded load of a whole struct, where the guard lets it come -/
theorem wpList_load_row_g {P : Program} {ops : Array Oper} {rest : List Oper} {o : Oper} {a : Act} {w : World} {Q : Exit → Act → World → Prop} (hw : Region.wanted o (yielded ops a.tmps) = true) (ty : TypeId) (x : Operand) (ho : o.op = .load ty x)
    (g : Nat) (hx : a.eval x = .pointer (some ⟨g, 0, none⟩)) (t : TypeId) (cs : Array Value) (fr : Nat × Nat) (d : TypeDesc) (hg : w.heap[g]? = some (.cells cs t fr))
    (hu : P.underlying ty = some d) (hd : (match d with | .struct _ | .array _ _ => true | _ => false) = true) (hi : (P.info? ty).map (·.size) = some cs.size)
    (h : wpList P ops Q rest (a.put o.dst (.agg cs)) w) : wpList P ops Q (o :: rest) a w :=
  wpList_step fun K hK => by rw [if_pos hw]; exact wp_load_row ty x ho g hx t cs fr d hg hu hd hi (hK _ _ h)
def ReadsOk (j : Job) (A : Option Addr) (c : Nat) (u : Rg) (bg bm mb l : Nat) : Prop :=
  ∀ (p : Rg) (t r : Nat) (W : World), KP l t r p → GI j A c u bg bm mb W → Calls Try.prog 63 #[gameV j A c u bg bm, knV p t r l] W fun e W' => e = .returned (.bool (readsR j u l p t r)) ∧ GI j A c u bg bm mb W' ∧ GS mb W W'

set_option maxRecDepth 100000 in
set_option maxHeartbeats 4000000 in
theorem stroke_zero (j : Job) (A : Option Addr) (c : Nat) (u : Rg) (bg bm mb : Nat) : StrokeOk j A c u bg bm mb 0 := by
  intro p t r w hk hG
  have HG := Lib.hid hG
  clear hG hk
  go_enter Try.func74, Try.ntmps74
  go_upto_region 1 with (fail)
  generalize hW : (w.alloc _).alloc _ = W
  generalize h2_ : w.heap.size + 1 = g2
  generalize h1_ : w.heap.size = g1
  obtain ⟨hB0_, Hg1, Hg2, kg1, kg2, fg1, fg2, lg1, lg2, bg1, bg2, ng12, ng21⟩ := gen2 w _ _ _ _ hW h2_ h1_
  clear hW h1_ h2_
  have H0W := Lib.hid hB0_
  clear hB0_
  have HHg1 := Lib.hid Hg1
  have HHg2 := Lib.hid Hg2
  clear Hg1 Hg2
  go_upto_block 0 with (fail)
  go_wp2_with fail
  go_loopw [5] (fun s wr => s = .int .i64 1 ∧ wr = W) (fun _ _ => 0)
  case atStart => exact ⟨rfl, rfl⟩
  case round =>
    obtain ⟨rfl, rfl⟩ := hrel
    go_wp2_with fail
    go_ret
    exact ⟨rfl, HG.out.below H0W.out, GS.of_below H0W.out⟩

theorem jobErr_file {j : Job} (hj : jobErr j = 0) : (0 ≤ j.f.up.mn ∧ j.f.up.mn ≤ j.f.up.mx ∧ j.f.up.mx ≤ 12) ∧ (0 ≤ j.f.down.mn ∧ j.f.down.mn ≤ j.f.down.mx ∧ j.f.down.mx ≤ 12) := by
  obtain ⟨-, -, h3, -, -, -, -, -, -, -, -⟩ := jobErr_zero hj
  have hup := rgErr_zero ((firstErr_zero _ _).1 h3 j.f.up (by simp))
  have hdn := rgErr_zero ((firstErr_zero _ _).1 h3 j.f.down (by simp))
  omega
theorem KP.up {j : Job} (hj : jobErr j = 0) {l t r : Nat} {p : Rg} (h : KP (l + 1) t r p) : KP l (t + 1) r (plusR p j.f.up) := by
  have := jobErr_file hj
  unfold KP plusR at *
  simp only
  omega
theorem KP.down {j : Job} (hj : jobErr j = 0) {l t r : Nat} {p : Rg} (h : KP (l + 1) t r p) : KP l t (r + 1) (lessR p j.f.down) := by
  have := jobErr_file hj
  unfold KP lessR at *
  simp only
  omega
theorem strokeV_succ (j : Job) (u : Rg) (l : Nat) (p : Rg) (t r : Nat) : strokeV j u (l + 1) p t r = if soundR j (t + 1) r && readsR j u l (plusR p j.f.up) (t + 1) r then 1 else if soundR j t (r + 1) && readsR j u l (lessR p j.f.down) t (r + 1) then 2 else 0 := rfl

set_option maxRecDepth 100000 in
set_option maxHeartbeats 4000000 in
theorem stroke_of_reads (j : Job) (A : Option Addr) (c : Nat) (u : Rg) (bg bm mb l : Nat) (hj : jobErr j = 0) (hs : ReadsOk j A c u bg bm mb l) : StrokeOk j A c u bg bm mb (l + 1) := by
  intro p t r w hk hG
  have hpb : p.Bd 1000000 := by unfold KP at hk; unfold Rg.Bd; omega
  have hn : t ≤ 5 ∧ r ≤ 5 ∧ l ≤ 5 := by unfold KP at hk; omega
  have hM1 := fun w => moved_calls j A c u bg bm p t r l 1 (.inl rfl) hj hpb hn w
  have hM2 := fun w => moved_calls j A c u bg bm p t r l 2 (.inr rfl) hj hpb hn w
  simp only [if_true, show ((2 : Int) = 1) = False from by simp, if_false] at hM1 hM2
  obtain ⟨p1, hp1⟩ : ∃ p1, plusR p j.f.up = p1 := ⟨_, rfl⟩
  obtain ⟨p2, hp2⟩ : ∃ p2, lessR p j.f.down = p2 := ⟨_, rfl⟩
  obtain ⟨b1, hb1⟩ : ∃ b1, soundR j (t + 1) r = b1 := ⟨_, rfl⟩
  obtain ⟨b2, hb2⟩ : ∃ b2, soundR j t (r + 1) = b2 := ⟨_, rfl⟩
  obtain ⟨d1, hd1⟩ : ∃ d1, readsR j u l p1 (t + 1) r = d1 := ⟨_, rfl⟩
  obtain ⟨d2, hd2⟩ : ∃ d2, readsR j u l p2 t (r + 1) = d2 := ⟨_, rfl⟩
  have hV := strokeV_succ j u l p t r
  rw [hp1, hp2, hb1, hb2, hd1, hd2] at hV
  rw [hp1, hb1] at hM1
  rw [hp2, hb2] at hM2
  have hR1 := hs p1 (t + 1) r
  have hR2 := hs p2 t (r + 1)
  rw [hd1] at hR1
  rw [hd2] at hR2
  have k1 := KP.up hj hk
  have k2 := KP.down hj hk
  rw [hp1] at k1
  rw [hp2] at k2
  have HR1 := Lib.hid (fun W => hR1 W k1)
  have HR2 := Lib.hid (fun W => hR2 W k2)
  have HM1 := Lib.hid hM1
  have HM2 := Lib.hid hM2
  have HVV := Lib.hid hV
  have HG := Lib.hid hG
  have lmb := hG.lt.2.2
  clear hs hk hpb hn hM1 hM2 hp1 hp2 hb1 hb2 hd1 hd2 hV hR1 hR2 k1 k2 hG
  go_enter Try.func74, Try.ntmps74
  go_upto_region 1 with (fail)
  generalize hW : (w.alloc _).alloc _ = W
  generalize h2_ : w.heap.size + 1 = g2
  generalize h1_ : w.heap.size = g1
  obtain ⟨hB0_, Hg1, Hg2, kg1, kg2, fg1, fg2, lg1, lg2, bg1, bg2, ng12, ng21⟩ := gen2 w _ _ _ _ hW h2_ h1_
  clear hW h1_ h2_
  have H0W := Lib.hid hB0_
  clear hB0_
  have HHg1 := Lib.hid Hg1
  have HHg2 := Lib.hid Hg2
  clear Hg1 Hg2
  have nm1 : g1 ≠ mb := by omega
  have nm2 : g2 ≠ mb := by omega
  go_upto_block 0 with (fail)
  go_wp2_with fail
  go_loopw [5] (fun s wr => ∃ n : Nat, s = .int .i64 (n : Int) ∧ 1 ≤ n ∧ n ≤ 3 ∧ Hid (GI j A c u bg bm mb wr ∧ GS mb W wr ∧ (2 ≤ n → (b1 && d1) = false) ∧ (3 ≤ n → (b2 && d2) = false))) (fun s _ => 3 - (intOf s).toNat)
  case atStart => exact ⟨1, rfl, by omega, by omega, Lib.hid ⟨HG.out.below H0W.out, GS.of_below (Below.refl _ _), fun h => by omega, fun h => by omega⟩⟩
  case round =>
    obtain ⟨n, rfl, hn1, hn3, HH⟩ := hrel
    have HGr := Lib.hid HH.out.1
    have HSr := Lib.hid HH.out.2.1
    have H1 := Lib.hid HH.out.2.2.1
    have H2 := Lib.hid HH.out.2.2.2
    clear HH HG
    have lgr1 := Nat.lt_of_lt_of_le lg1 HSr.out.size
    have lgr2 := Nat.lt_of_lt_of_le lg2 HSr.out.size
    have G1 := Lib.hid ((HSr.out.block _ lg1 nm1).trans HHg1.out)
    have kk2 : ∀ j', wr.cell? ⟨g2, j', none⟩ = #[Value.int .i64 p.mn, Value.int .i64 p.mx, Value.int .i64 t, Value.int .i64 r, Value.int .i64 ((l : Int) + 1)][j']? := fun j' => (HSr.out.cell lg2 nm2 _).trans (kg2 j')
    clear kg1 kg2 HHg1 HHg2
    have HB := Lib.hid (Below.refl wr.heap.size wr)
    obtain rfl | rfl | rfl : n = 1 ∨ n = 2 ∨ n = 3 := by omega
    · go_upto_region 5 with (first
        | ((with_reducible refine ld_gate 106 rfl ?_); refine wpList_load_row rfl 106 _ rfl g1 rfl 106 _ (0, 0) _ G1.out Try.underlying106 rfl size106 ?_)
        | (go_at_call 96; refine (HM1.out _).mono ?_; rintro e_ w1 ⟨rfl, hb_⟩; have HB_ := Lib.hid (bl_then2 (by (repeat (with_reducible first | exact HB.out | apply bl_alloc2 | apply bl_drew2 | apply bl_drewN2))) hb_); clear HB hb_; (try clear hq); have HB := HB_; clear HB_; have hq := CB.of HB.out)
        | ((with_reducible refine st_gate 111 rfl ?_); refine wpList_store_row rfl 111 _ _ rfl _ _ rfl rfl 111 _ (heap_alloc_at _ _ _ rfl) size111 (by simp) (by simp [Value.oneCell']) ?_))
      generalize hf9 : w1.heap.size = f9
      generalize hX : (w1.alloc _).setRow f9 _ = X
      have F9 := Lib.hid (hX ▸ setRow_heap (heap_alloc_at w1 _ f9 hf9.symm))
      have HBX : Below wr.heap.size wr X := hX ▸ bl_setRow (bl_alloc HB.out _) (hf9 ▸ HB.out.size) _
      have kf : ∀ j', X.cell? ⟨f9, j', none⟩ = _ := fun j' => cell_of_row _ _ j' _ _ _ F9.out
      have HGX := Lib.hid (HGr.out.below HBX)
      have HSX := Lib.hid (HSr.out.trans (GS.of_below HBX))
      have G1X := Lib.hid ((HBX.block _ lgr1).trans G1.out)
      clear hX hf9 HBX HB hq G1 kk2 HSr HGr HM1 HM2
      cases b1 with
      | false =>
        go_wp2_with fail
        refine ⟨⟨2, rfl, by omega, by omega, Lib.hid ⟨HGX.out, HSX.out, fun _ => rfl, fun h => by omega⟩⟩, ?_⟩
        simp [intOf]
      | true =>
        cases d1 with
        | false =>
          go_wp2_with (first
            | ((with_reducible refine ld_gate 106 rfl ?_); refine wpList_load_row_g (by rfl) 106 _ rfl g1 rfl 106 _ (0, 0) _ G1X.out Try.underlying106 rfl size106 ?_)
            | (go_at_call 63; refine (HR1.out _ HGX.out).mono ?_; rintro e_ w2 ⟨rfl, hG2, hS2⟩))
          refine ⟨⟨2, rfl, by omega, by omega, Lib.hid ⟨hG2, HSX.out.trans hS2, fun _ => rfl, fun h => by omega⟩⟩, ?_⟩
          simp [intOf]
        | true =>
          go_wp2_with (first
            | ((with_reducible refine ld_gate 106 rfl ?_); refine wpList_load_row_g (by rfl) 106 _ rfl g1 rfl 106 _ (0, 0) _ G1X.out Try.underlying106 rfl size106 ?_)
            | (go_at_call 63; refine (HR1.out _ HGX.out).mono ?_; rintro e_ w2 ⟨rfl, hG2, hS2⟩))
          go_ret
          refine ⟨ret_int ?_, hG2, (GS.of_below H0W.out).trans (HSX.out.trans hS2)⟩
          rw [HVV.out]; rfl
    · go_upto_region 5 with (first
        | ((with_reducible refine ld_gate 106 rfl ?_); refine wpList_load_row rfl 106 _ rfl g1 rfl 106 _ (0, 0) _ G1.out Try.underlying106 rfl size106 ?_)
        | (go_at_call 96; refine (HM2.out _).mono ?_; rintro e_ w1 ⟨rfl, hb_⟩; have HB_ := Lib.hid (bl_then2 (by (repeat (with_reducible first | exact HB.out | apply bl_alloc2 | apply bl_drew2 | apply bl_drewN2))) hb_); clear HB hb_; (try clear hq); have HB := HB_; clear HB_; have hq := CB.of HB.out)
        | ((with_reducible refine st_gate 111 rfl ?_); refine wpList_store_row rfl 111 _ _ rfl _ _ rfl rfl 111 _ (heap_alloc_at _ _ _ rfl) size111 (by simp) (by simp [Value.oneCell']) ?_))
      generalize hf9 : w1.heap.size = f9
      generalize hX : (w1.alloc _).setRow f9 _ = X
      have F9 := Lib.hid (hX ▸ setRow_heap (heap_alloc_at w1 _ f9 hf9.symm))
      have HBX : Below wr.heap.size wr X := hX ▸ bl_setRow (bl_alloc HB.out _) (hf9 ▸ HB.out.size) _
      have kf : ∀ j', X.cell? ⟨f9, j', none⟩ = _ := fun j' => cell_of_row _ _ j' _ _ _ F9.out
      have HGX := Lib.hid (HGr.out.below HBX)
      have HSX := Lib.hid (HSr.out.trans (GS.of_below HBX))
      have G1X := Lib.hid ((HBX.block _ lgr1).trans G1.out)
      clear hX hf9 HBX HB hq G1 kk2 HSr HGr HM1 HM2
      cases b2 with
      | false =>
        go_wp2_with fail
        refine ⟨⟨3, rfl, by omega, by omega, Lib.hid ⟨HGX.out, HSX.out, fun _ => H1.out (by omega), fun _ => rfl⟩⟩, ?_⟩
        simp [intOf]
      | true =>
        cases d2 with
        | false =>
          go_wp2_with (first
            | ((with_reducible refine ld_gate 106 rfl ?_); refine wpList_load_row_g (by rfl) 106 _ rfl g1 rfl 106 _ (0, 0) _ G1X.out Try.underlying106 rfl size106 ?_)
            | (go_at_call 63; refine (HR2.out _ HGX.out).mono ?_; rintro e_ w2 ⟨rfl, hG2, hS2⟩))
          refine ⟨⟨3, rfl, by omega, by omega, Lib.hid ⟨hG2, HSX.out.trans hS2, fun _ => H1.out (by omega), fun _ => rfl⟩⟩, ?_⟩
          simp [intOf]
        | true =>
          go_wp2_with (first
            | ((with_reducible refine ld_gate 106 rfl ?_); refine wpList_load_row_g (by rfl) 106 _ rfl g1 rfl 106 _ (0, 0) _ G1X.out Try.underlying106 rfl size106 ?_)
            | (go_at_call 63; refine (HR2.out _ HGX.out).mono ?_; rintro e_ w2 ⟨rfl, hG2, hS2⟩))
          go_ret
          refine ⟨ret_int ?_, hG2, (GS.of_below H0W.out).trans (HSX.out.trans hS2)⟩
          have h1 := H1.out (by omega); rw [HVV.out, if_neg (by rw [h1]; simp)]; rfl
    · go_wp2_with fail
      go_ret
      refine ⟨ret_int ?_, HGr.out, (GS.of_below H0W.out).trans HSr.out⟩
      have h1 := H1.out (by omega)
      have h2 := H2.out (by omega)
      rw [HVV.out, if_neg (by rw [h1]; simp), if_neg (by rw [h2]; simp)]

end Go.Proofs.Ytnclljamcfoolaa
namespace Go.Proofs.Ytnclljamcfoolaa
open Go.RowKit Go.Shelf
set_option linter.unusedVariables false
set_option linter.unusedSimpArgs false

/-- what may come: something of the list -/
abbrev Hd (p : Rg) (m : Int) := { x : Rg // x ∈ heard p m }
theorem heardN_succ (p : Rg) (m : Int) (k : Nat) : heardN p m (k + 1) = heardN p m k ++ [heardAt p m (p.mn - m + (k : Int))] := by simp [heardN, List.range_succ]
theorem heard_len (p : Rg) (m : Int) : (heard p m).length = (p.mx + m - (p.mn - m) + 1).toNat := by simp [heard, heardN]
theorem abides_below {β : Type} {B : Nat} {J : β → World → Prop} (h : AbidesFrom B J) {s : β} {W W' : World} (hb : Below W.heap.size W W') (hs : J s W) : J s W' :=
  h s W W' none hs ⟨hb.os, hb.tape, hb.output, hb.size, fun k hk _ => hb.block k hk⟩ (fun r e => by cases e)

set_option maxRecDepth 100000 in
set_option maxHeartbeats 4000000 in
theorem heard_seq (n : Nat) (hn : 1 ≤ n) (p : Rg) (m : Int) (hp : p.Bd 1000000) (hmn : p.mn ≤ p.mx) (hm : 0 ≤ m ∧ m ≤ 6) (bp bq : Nat) (w : World) (hbp : w.heap[bp]? = some (.cells #[.int .i64 p.mn, .int .i64 p.mx] 26 (0, 0))) (hbq : w.heap[bq]? = some (.cells #[.int .i64 m] 3 (0, 0))) :
    SeqStopsK Fence.wide n Try.prog 107 #[.pointer (some ⟨bp, 0, none⟩), .pointer (some ⟨bq, 0, none⟩)] (fun x : Hd p m => #[x.1.v]) (fun W W' => W'.heap[bp]? = W.heap[bp]? ∧ W'.heap[bq]? = W.heap[bq]?) (fun xs => xs.map (·.1) = heard p m) (fun _ => True) (heard p m).length w := by
  intro l J Jx W hW hJ hJx hY h0
  have lbp := (Array.getElem?_eq_some_iff.1 hbp).1
  have lbq := (Array.getElem?_eq_some_iff.1 hbq).1
  have HBP := Lib.hid ((hW.block _ lbp).trans hbp)
  have HBQ := Lib.hid ((hW.block _ lbq).trans hbq)
  have c0 := cell_of_row W bp 0 _ _ _ HBP.out
  have c1 := cell_of_row W bp 1 _ _ _ HBP.out
  have c2 := cell_of_row W bq 0 _ _ _ HBQ.out
  have hlen := heard_len p m
  obtain ⟨b1, b2, b3, b4⟩ := hp
  simp only [List.getElem?_toArray, List.getElem?_cons_zero, List.getElem?_cons_succ] at c0 c1 c2
  refine callsIn_of_wp Try.func107 rfl trivial ?_ rfl
  simp only [Try.ntmps107, List.size_toArray, List.length_cons, List.length_nil, Nat.reduceAdd, Nat.reduceSub, Array.replicate_succ, Array.replicate_zero, List.push_toArray, List.append_toArray, List.nil_append, List.cons_append]
  gi_wp2_with fail
  gi_loopw [4] (fun i wr => ∃ (k : Nat) (pre : List (Hd p m)), k ≤ (heard p m).length ∧ i = .int .i64 (p.mn - m + k) ∧ pre.map (·.1) = heardN p m k ∧ Hid (J pre wr) ∧ Hid (wr.heap[bp]? = some (.cells #[.int .i64 p.mn, .int .i64 p.mx] 26 (0, 0)) ∧ wr.heap[bq]? = some (.cells #[.int .i64 m] 3 (0, 0))))
    (fun i _ => (p.mx + m + 1 - intOf i).toNat)
  case atStart => exact ⟨0, [], Nat.zero_le _, by simp, rfl, Lib.hid h0, Lib.hid ⟨HBP.out, HBQ.out⟩⟩
  case round =>
    obtain ⟨k, pre, hk, rfl, hpre, HJ, HH⟩ := hrel
    clear c0 c1 c2 HBP HBQ
    have c0 := cell_of_row wr bp 0 _ _ _ HH.out.1
    have c1 := cell_of_row wr bp 1 _ _ _ HH.out.1
    have c2 := cell_of_row wr bq 0 _ _ _ HH.out.2
    simp only [List.getElem?_toArray, List.getElem?_cons_zero, List.getElem?_cons_succ] at c0 c1 c2
    by_cases hlt : k < (heard p m).length
    · have hle : p.mn - m + (k : Int) ≤ p.mx + m := by omega
      have hmem : heardAt p m (p.mn - m + (k : Int)) ∈ heard p m := (mem_heard _ _ _).2 ⟨_, by omega, hle, rfl⟩
      have hsn := heardN_succ p m k
      have hM := fun w g h => meet1_calls p ⟨p.mn - m + (k : Int) - m, p.mn - m + (k : Int) + m⟩ w g h
      obtain ⟨y, hy9⟩ : ∃ y, heardAt p m (p.mn - m + (k : Int)) = y := ⟨_, rfl⟩
      rw [show meetR p ⟨p.mn - m + (k : Int) - m, p.mn - m + (k : Int) + m⟩ = y from hy9] at hM
      rw [hy9] at hmem hsn
      have HM := Lib.hid hM
      have HS := Lib.hid hsn
      have hpl : pre.length = k := by have := congrArg List.length hpre; simpa [heardN] using this
      clear hy9 hM hsn
      gi_wp2_with (first | fail)
      refine ⟨trivial, (callsIn_wide.2 (HM.out _ wr.heap.size (fun j' => cell_of_row _ _ j' _ _ _ (heap_new wr _)))).mono ?_⟩
      rintro e_ w1 ⟨rfl, hb_⟩
      have hbw : Below wr.heap.size wr w1 := bl_then (bl_alloc (Below.refl _ _) _) hb_
      have hJ1 := abides_below hJ hbw HJ.out
      have lp := (Array.getElem?_eq_some_iff.1 HH.out.1).1
      have lq := (Array.getElem?_eq_some_iff.1 HH.out.2).1
      have HH1 := Lib.hid (And.intro ((hbw.block _ lp).trans HH.out.1) ((hbw.block _ lq).trans HH.out.2))
      obtain ⟨fn, tmps, assign, body, hy, hR⟩ := hY pre ⟨y, hmem⟩ w1 hJ1 (by omega)
      gi_wp2
      refine hR.mono ?_
      rintro e W3 (⟨rfl, hJ3, hk3⟩ | ⟨rfl, hJx3⟩)
      · gi_wp2
        refine ⟨⟨k + 1, pre ++ [⟨y, hmem⟩], by omega, by simp; omega, ?_, Lib.hid hJ3, Lib.hid ⟨hk3.1.trans HH1.out.1, hk3.2.trans HH1.out.2⟩⟩, ?_⟩
        · rw [List.map_append, hpre, HS.out]; rfl
        · simp only [intOf]; omega
      · gi_wp2
        refine bodyPost_ret (results_none rfl _ _ _) rfl ?_
        exact ⟨⟨_, rfl⟩, .inr ⟨_, trivial, hJx3⟩⟩
    · have hle : ¬ (p.mn - m + (k : Int) ≤ p.mx + m) := by omega
      gi_wp2
      go_end0
      refine ⟨⟨_, rfl⟩, .inl ⟨pre, ?_, HJ.out⟩⟩
      obtain rfl : k = (heard p m).length := by omega
      have : heard p m = heardN p m (heard p m).length := by rw [heard_len]; rfl
      rw [← this] at hpre
      exact hpre

end Go.Proofs.Ytnclljamcfoolaa
namespace Go.Proofs.Ytnclljamcfoolaa
open Go.RowKit Go.Shelf
attribute [local go_sem] Oper.semAt_some
set_option linter.unusedVariables false
set_option linter.unusedSimpArgs false

theorem readings_calls (p : Rg) (m : Int) (w : World) : Calls Try.prog 91 #[p.v, .int .i64 m] w fun e w' => ∃ bp bq, e = .returned (.func (.func 107) #[] #[.pointer (some ⟨bp, 0, none⟩), .pointer (some ⟨bq, 0, none⟩)]) ∧ Hid (w'.heap[bp]? = some (.cells #[.int .i64 p.mn, .int .i64 p.mx] 26 (0, 0)) ∧ w'.heap[bq]? = some (.cells #[.int .i64 m] 3 (0, 0)) ∧ w.heap.size ≤ bp ∧ w.heap.size ≤ bq) ∧ Below w.heap.size w w' := by
  go_enter Try.func91, Try.ntmps91
  go_upto_region 1 with (fail)
  generalize hW : (w.alloc _).alloc _ = W
  generalize h2_ : w.heap.size + 1 = g2
  generalize h1_ : w.heap.size = g1
  obtain ⟨hB0_, Hg1, Hg2, kg1, kg2, fg1, fg2, lg1, lg2, bg1, bg2, ng12, ng21⟩ := gen2 w _ _ _ _ hW h2_ h1_
  clear hW h1_ h2_
  have H0W := Lib.hid hB0_
  clear hB0_
  have HHg1 := Lib.hid Hg1
  have HHg2 := Lib.hid Hg2
  clear Hg1 Hg2
  go_wp2_with fail
  go_ret
  exact ⟨g1, g2, rfl, Lib.hid ⟨HHg1.out, HHg2.out, bg1, bg2⟩, H0W.out⟩

theorem heard_KP {l t r : Nat} {p : Rg} {m : Int} (h : KP l t r p) (hm : 0 ≤ m) {x : Rg} (hx : x ∈ heard p m) : KP l t r x := by
  obtain ⟨q, h1, h2, rfl⟩ := (mem_heard p m x).1 hx
  unfold KP heardAt meetR at *
  simp only
  omega
/-- what lay ahead of the loop lies as it lay, but the memo and the box 'all' -/
structure FR (mb ga : Nat) (w W : World) : Prop where
  os : W.os = w.os
  tape : W.tape = w.tape
  output : W.output = w.output
  size : w.heap.size ≤ W.heap.size
  block : ∀ k, k < w.heap.size → k ≠ mb → k ≠ ga → W.heap[k]? = w.heap[k]?
theorem FR.refl (mb ga : Nat) (w : World) : FR mb ga w w := ⟨rfl, rfl, rfl, Nat.le_refl _, fun _ _ _ _ => rfl⟩
theorem FR.gs {mb ga : Nat} {w W W' : World} (h : FR mb ga w W) (k : GS mb W W') : FR mb ga w W' :=
  ⟨k.os.trans h.os, k.tape.trans h.tape, k.output.trans h.output, Nat.le_trans h.size k.size, fun b hb h1 h2 => (k.block b (Nat.lt_of_lt_of_le hb h.size) h1).trans (h.block b hb h1 h2)⟩
theorem FR.grown {mb ga : Nat} {w W W' : World} {row : Option Nat} (h : FR mb ga w W) (k : W.grownBy W' row) (hr : ∀ r, row = some r → w.heap.size ≤ r) : FR mb ga w W' :=
  ⟨k.os.trans h.os, k.tape.trans h.tape, k.output.trans h.output, Nat.le_trans h.size k.size, fun b hb h1 h2 => (k.block b (Nat.lt_of_lt_of_le hb h.size) (fun e => by have := hr b e.symm; omega)).trans (h.block b hb h1 h2)⟩
theorem FR.set {mb ga : Nat} {w W : World} (h : FR mb ga w W) (o : Nat) (v : Value) : FR mb ga w (W.setCell ⟨ga, o, none⟩ v) :=
  ⟨h.os, h.tape, h.output, by simpa using h.size, fun b hb h1 h2 => ((wrote_setCell W ga o v).block b h2).trans (h.block b hb h1 h2)⟩
theorem GI.same {j : Job} {A : Option Addr} {c : Nat} {u : Rg} {bg bm mb : Nat} {W W' : World} (h : GI j A c u bg bm mb W) (h1 : W'.heap[bg]? = W.heap[bg]?) (h2 : W'.heap[bm]? = W.heap[bm]?) (h3 : W'.heap[mb]? = W.heap[mb]?) : GI j A c u bg bm mb W' := by
  obtain ⟨es, clock, hm, hg⟩ := h.memo
  exact ⟨h1.trans h.game, h2.trans h.box, es, clock, h3.trans hm, hg⟩
theorem GI.grown {j : Job} {A : Option Addr} {c : Nat} {u : Rg} {bg bm mb B : Nat} {W W' : World} {row : Option Nat} (h : GI j A c u bg bm mb W) (hl : bg < B ∧ bm < B ∧ mb < B) (k : W.grownBy W' row) (hr : ∀ r, row = some r → B ≤ r) : GI j A c u bg bm mb W' := by
  obtain ⟨l1, l2, l3⟩ := h.lt
  exact h.same (k.block _ l1 (fun e => by have := hr _ e.symm; omega)) (k.block _ l2 (fun e => by have := hr _ e.symm; omega)) (k.block _ l3 (fun e => by have := hr _ e.symm; omega))
theorem keepsFrom_below {B : Nat} {W W' : World} (h : Below W.heap.size W W') : KeepsFrom B W W' := ⟨h.size, fun k o _ hk _ => (h.block k (Array.getElem?_eq_some_iff.1 hk).1).trans hk⟩
theorem keepsFrom_gs {B mb : Nat} {W W' : World} (hmb : mb < B) (h : GS mb W W') : KeepsFrom B W W' := ⟨h.size, fun k o hB hk _ => (h.block k (Array.getElem?_eq_some_iff.1 hk).1 (by omega)).trans hk⟩

/-- the invariant of the loop between two rounds, and where a round has said 'no more' -/
def RdI (j : Job) (A : Option Addr) (c : Nat) (u : Rg) (bg bm mb ga l t r : Nat) (w : World) {α : Type} (f : α → Rg) (pre : List α) (W : World) : Prop :=
  FR mb ga w W ∧ GI j A c u bg bm mb W ∧ W.heap[ga]? = some (.cells #[.bool true] 4 (0, 0)) ∧ ∀ x ∈ pre, stopsR j u l (f x) t r = true
def RdX (j : Job) (A : Option Addr) (c : Nat) (u : Rg) (bg bm mb ga l t r : Nat) (w : World) {α : Type} (f : α → Rg) (cd : Code) (pre : List α) (W : World) : Prop :=
  cd = .exit 0 ∧ FR mb ga w W ∧ GI j A c u bg bm mb W ∧ W.heap[ga]? = some (.cells #[.bool false] 4 (0, 0)) ∧ ∃ x ∈ pre, stopsR j u l (f x) t r = false

set_option maxRecDepth 100000 in
set_option maxHeartbeats 4000000 in
theorem reads_of_stops (j : Job) (A : Option Addr) (c : Nat) (u : Rg) (bg bm mb l : Nat) (hj : jobErr j = 0) (hs : StopsOk j A c u bg bm mb l) : ReadsOk j A c u bg bm mb l := by
  intro p t r w hk hG
  have HST := Lib.hid hs
  have HG := Lib.hid hG
  have HK := Lib.hid hk
  have lmb := hG.lt.2.2
  obtain ⟨-, -, -, -, -, -, -, -, -, hm0, hm6⟩ := jobErr_zero hj
  clear hs hG hk
  refine (callsIn_wide (n := 4)).1 (callsIn_of_wp_marks Try.func63 rfl trivial (wpIn_wide.2 ?_) rfl)
  simp only [Try.ntmps63, List.size_toArray, List.length_cons, List.length_nil, Nat.reduceAdd, Nat.reduceSub, Array.replicate_succ, Array.replicate_zero, List.push_toArray, List.append_toArray, List.nil_append, List.cons_append]
  go_wp2_with fail
  apply wp_scope_straight
  go_wp2_with fail
  apply wp_label
  generalize hW : ((w.alloc _).alloc _).alloc _ = W
  generalize h3_ : w.heap.size + 1 + 1 = g3
  generalize h2_ : w.heap.size + 1 = g2
  generalize h1_ : w.heap.size = g1
  obtain ⟨hB0_, Hg1, Hg2, Hg3, kg1, kg2, kg3, fg1, fg2, fg3, lg1, lg2, lg3, bg1, bg2, bg3, ng12, ng13, ng21, ng23, ng31, ng32⟩ := gen3 w _ _ _ _ _ _ hW h3_ h2_ h1_
  clear hW h1_ h2_ h3_
  have H0W := Lib.hid hB0_
  clear hB0_
  have HHg1 := Lib.hid Hg1
  have HHg2 := Lib.hid Hg2
  have HHg3 := Lib.hid Hg3
  clear Hg1 Hg2 Hg3
  have HGW := Lib.hid (HG.out.below H0W.out)
  have nm1 : g1 ≠ mb := by omega
  have nm2 : g2 ≠ mb := by omega
  have nm3 : g3 ≠ mb := by omega
  have n13 : g1 ≠ g3 := fun h => by rw [h] at ng13; exact ng13 ▸ rfl
  have n23 : g2 ≠ g3 := fun h => by rw [h] at ng23; exact ng23 ▸ rfl
  clear ng12 ng13 ng21 ng23 ng31 ng32
  have HB := Lib.hid (Below.refl W.heap.size W)
  go_upto_block 0 with (go_at_call 91; refine (readings_calls p j.meter _).mono ?_; rintro e_ w1 ⟨bp, bq, rfl, hpq, hb_⟩; have HB_ := Lib.hid (bl_then2 (by (repeat (with_reducible first | exact HB.out | apply bl_alloc2 | apply bl_drew2 | apply bl_drewN2))) hb_); clear HB hb_; (try clear hq); have HB := HB_; clear HB_; have hq := CB.of HB.out)
  have lg1' := Nat.lt_of_lt_of_le lg1 HB.out.size
  have lg2' := Nat.lt_of_lt_of_le lg2 HB.out.size
  have lg3' := Nat.lt_of_lt_of_le lg3 HB.out.size
  have G1 := Lib.hid ((HB.out.block _ lg1).trans HHg1.out)
  have G2 := Lib.hid ((HB.out.block _ lg2).trans HHg2.out)
  have G3 := Lib.hid ((HB.out.block _ lg3).trans HHg3.out)
  have HG1 := Lib.hid (HGW.out.below HB.out)
  have HWW := Lib.hid (bl_then H0W.out HB.out)
  have HL := Lib.hid HG1.out.lt
  have npb : bp ≠ mb := by have := hpq.out.2.2.1; have := H0W.out.size; omega
  have nqb : bq ≠ mb := by have := hpq.out.2.2.2; have := H0W.out.size; omega
  have npa : bp ≠ g3 := by have := hpq.out.2.2.1; omega
  have nqa : bq ≠ g3 := by have := hpq.out.2.2.2; omega
  have lbp := (Array.getElem?_eq_some_iff.1 hpq.out.1).1
  have lbq := (Array.getElem?_eq_some_iff.1 hpq.out.2.1).1
  have nbg : bg ≠ g3 := by have := HG.out.lt.1; omega
  have nbm : bm ≠ g3 := by have := HG.out.lt.2.1; omega
  have hpB : p.Bd 1000000 := by have := HK.out; unfold KP at this; unfold Rg.Bd; omega
  have hpm : p.mn ≤ p.mx := HK.out.1
  have HFS := Lib.hid (show ∀ W, FR mb g3 w1 W → ∀ D, w1.heap.size ≤ D → GS mb w (W.putObj D (.deferred none)) from fun W hF D hD => by
    have h1 : GS mb w W := ⟨hF.os.trans HWW.out.os, hF.tape.trans HWW.out.tape, hF.output.trans HWW.out.output, Nat.le_trans HWW.out.size hF.size, fun k hk hn => (hF.block k (Nat.lt_of_lt_of_le hk HWW.out.size) hn (by omega)).trans (HWW.out.block k hk)⟩
    exact ⟨h1.os, h1.tape, h1.output, by simpa using h1.size, fun k hk hn => (World.putObj_heap_other (by have := HWW.out.size; omega)).trans (h1.block k hk hn)⟩)
  clear HB hq HGW kg1 kg2 kg3 fg1 fg2 fg3 HHg1 HHg2 HHg3 HG H0W
  go_wp2_with fail
  refine wpIn_wide.1 (wpIn_rangeFunc_ownH (n := 4) rfl (by omega) rfl trivial (enters_of Try.func107 (by kernel_rfl) rfl)
    (heard_seq 3 (by omega) p j.meter hpB hpm ⟨hm0, hm6⟩ bp bq w1 hpq.out.1 hpq.out.2.1) (fun h k => ⟨k.1.trans h.1, k.2.trans h.2⟩) ?kb (Below.refl _ _) (fun _ => rfl)
    (RdI j A c u bg bm mb g3 l t r w1 (fun x : Hd p j.meter => x.1)) (RdX j A c u bg bm mb g3 l t r w1 (fun x : Hd p j.meter => x.1)) ?hI ?hIx ?h0
    (fun x a' W => ∃ gv, w1.heap.size ≤ gv ∧ W.heap[gv]? = some (.cells #[.int .i64 x.1.mn, .int .i64 x.1.mx] 26 (0, 0)) ∧ a' = { tmps := #[gameV j A c u bg bm, knV p t r l, .pointer (some ⟨g1, 0, none⟩), .pointer (some ⟨g2, 0, none⟩), .bool false, .pointer (some ⟨g3, 0, none⟩), .pointer (some ⟨gv, 0, none⟩), .pointer (some ⟨g2, 0, none⟩), .agg #[.int .i64 p.mn, .int .i64 p.mx], .pointer (some ⟨g1, 0, none⟩), .pointer (some ⟨g1, 17, none⟩), .int .i64 j.meter, .func (.func 107) #[] #[.pointer (some ⟨bp, 0, none⟩), .pointer (some ⟨bq, 0, none⟩)], x.1.v, undef, undef, undef, undef, undef, undef, undef, undef, undef, undef, undef, undef, undef], defers := [] }) ?hAx ?hassign ?hbody ?hdone ?hstop)
  case kb =>
    intro W l' o o' hl' _ _ _
    exact ⟨World.putObj_heap_other (by omega), World.putObj_heap_other (by omega)⟩
  case hI =>
    intro s W W' row hs hg hr
    obtain ⟨h1, h2, h3, h4⟩ := hs
    have hr' : ∀ r, row = some r → w1.heap.size ≤ r := fun r e => (hr r e).1
    exact ⟨h1.grown hg hr', h2.grown HL.out hg hr', (hg.block _ (Nat.lt_of_lt_of_le lg3' h1.size) (fun e => by have := hr' _ e.symm; omega)).trans h3, h4⟩
  case hIx =>
    intro cd s W W' row hs hg hr
    obtain ⟨h0, h1, h2, h3, h4⟩ := hs
    have hr' : ∀ r, row = some r → w1.heap.size ≤ r := fun r e => (hr r e).1
    exact ⟨h0, h1.grown hg hr', h2.grown HL.out hg hr', (hg.block _ (Nat.lt_of_lt_of_le lg3' h1.size) (fun e => by have := hr' _ e.symm; omega)).trans h3, h4⟩
  case h0 => exact ⟨FR.refl _ _ _, HG1.out, G3.out, fun x hx => by cases hx⟩
  case hAx =>
    rintro x a' s W W' row ⟨gv, hgv, hc, rfl⟩ hg hr
    refine ⟨gv, hgv, (hg.block _ (Array.getElem?_eq_some_iff.1 hc).1 (fun e => ?_)).trans hc, rfl⟩
    obtain ⟨-, o, ho, hoc⟩ := hr gv e.symm
    rw [hc] at ho
    cases ho
    cases hoc
  case hassign =>
    intro l' pre x W K hI hK
    gi_wp2
    have hb : Below W.heap.size W (W.alloc (.cells #[.int .i64 x.1.mn, .int .i64 x.1.mx] 26)) := bl_alloc (Below.refl _ _) _
    obtain ⟨h1, h2, h3, h4⟩ := hI
    refine hK _ _ (keepsFrom_below hb) ⟨hb.block _ (Nat.lt_of_lt_of_le lbp h1.size), hb.block _ (Nat.lt_of_lt_of_le lbq h1.size)⟩ ⟨h1.gs (GS.of_below hb), h2.below hb, (hb.block _ (Nat.lt_of_lt_of_le lg3' h1.size)).trans h3, h4⟩ ⟨W.heap.size, h1.size, heap_alloc_new W _, rfl⟩
  case hbody =>
    rintro l' pre x a' W hl' - ⟨h1, h2, h3, h4⟩ ⟨gv, hgv, hcv, rfl⟩ -
    have hKx := heard_KP HK.out hm0 x.2
    have hC := Lib.hid (HST.out x.1 t r W hKx h2)
    have e1 := fun k => cell_of_row W g1 k _ _ _ ((h1.block _ lg1' nm1 n13).trans G1.out)
    have e2 := fun k => cell_of_row W g2 k _ _ _ ((h1.block _ lg2' nm2 n23).trans G2.out)
    have e3 := fun k => cell_of_row W gv k _ _ _ hcv
    have e4 := cell_of_row W g3 0 _ _ _ h3
    have hlt3 := Nat.lt_of_lt_of_le lg3' h1.size
    obtain ⟨b, hb9⟩ : ∃ b, stopsR j u l x.1 t r = b := ⟨_, rfl⟩
    rw [hb9] at hC
    have HB9 := Lib.hid hb9
    have H1 := Lib.hid h1
    have H3 := Lib.hid h3
    have H4 := Lib.hid h4
    clear hb9 h1 h2 h3 h4 hcv
    gi_wp2
    refine ⟨trivial, ((callsIn_wide.2 hC.out).inRound l').mono ?_⟩
    rintro e_ w2 ⟨rfl, hG2, hS2⟩
    have lW : w1.heap.size ≤ W.heap.size := H1.out.size
    have hH3 := (hS2.block g3 hlt3 nm3).trans H3.out
    have e5 := cell_of_row w2 g3 0 _ _ _ hH3
    have f5 := frozen_row hH3 0
    have hkp : w2.heap[bp]? = W.heap[bp]? ∧ w2.heap[bq]? = W.heap[bq]? := ⟨hS2.block _ (by omega) npb, hS2.block _ (by omega) nqb⟩
    have hlm : mb < w1.heap.size := HL.out.2.2
    have HG2 := Lib.hid hG2
    have HS2 := Lib.hid hS2
    have HH3 := Lib.hid hH3
    have HKP := Lib.hid hkp
    clear hG2 hS2 hH3 hkp e1 e2 e3 e4
    cases b with
    | true =>
      gi_wp2
      refine ⟨keepsFrom_gs hlm HS2.out, HKP.out, H1.out.gs HS2.out, HG2.out, HH3.out, fun y hy => ?_⟩
      rcases List.mem_append.1 hy with hy | hy
      · exact H4.out y hy
      · rw [List.mem_singleton.1 hy]; exact HB9.out
    | false =>
      gi_wp2
      have hkf : KeepsFrom w1.heap.size w2 (w2.setCell ⟨g3, 0, none⟩ (.bool false)) := ⟨by simp, fun k o hB hk _ => ((wrote_setCell w2 g3 0 _).block k (by omega)).trans hk⟩
      refine ⟨(keepsFrom_gs hlm HS2.out).trans hkf, rfl, (H1.out.gs HS2.out).set 0 _, HG2.out.same ((wrote_setCell w2 g3 0 _).block _ nbg) ((wrote_setCell w2 g3 0 _).block _ nbm) ((wrote_setCell w2 g3 0 _).block _ nm3.symm), ?_, x, List.mem_append_right _ List.mem_cons_self, HB9.out⟩
      simp [World.setCell, Array.getElem?_modify, HH3.out]
  case hdone =>
    intro D xs W hD hS hI hK
    obtain ⟨h1, h2, h3, h4⟩ := hI
    have e4 := cell_of_row W g3 0 _ _ _ h3
    have H1 := Lib.hid h1
    have H2 := Lib.hid h2
    have H4 := Lib.hid h4
    clear h1 h2 h3 h4
    go_simp
    go_wp2_with fail
    refine ⟨by simp, .inl ⟨_, _, rfl, run_takeDeferred hK, ?_⟩⟩
    refine ⟨_, results_tmp rfl _ _ _, ?_, H2.out.grown HL.out (grownBy_putObj' W D _) (fun r e => by cases e; exact hD), HFS.out W H1.out D hD⟩
    have : readsR j u l p t r = true := by
      unfold readsR
      rw [List.all_eq_true]
      intro y hy
      rw [← hS] at hy
      obtain ⟨x, hx, rfl⟩ := List.mem_map.1 hy
      exact H4.out x hx
    rw [this]; rfl
  case hstop =>
    rintro D cd pre W hD - ⟨rfl, h1, h2, h3, h4⟩ hK
    have e4 := cell_of_row W g3 0 _ _ _ h3
    have H1 := Lib.hid h1
    have H2 := Lib.hid h2
    have H4 := Lib.hid h4
    clear h1 h2 h3 h4
    gi_wp2
    go_wp2_with fail
    refine ⟨by simp, .inl ⟨_, _, rfl, run_takeDeferred hK, ?_⟩⟩
    refine ⟨_, results_tmp rfl _ _ _, ?_, H2.out.grown HL.out (grownBy_putObj' W D _) (fun r e => by cases e; exact hD), HFS.out W H1.out D hD⟩
    have : readsR j u l p t r = false := by
      unfold readsR
      obtain ⟨x, -, hx⟩ := H4.out
      rw [List.all_eq_false]
      exact ⟨x.1, x.2, by rw [hx]; simp⟩
    rw [this]; rfl

end Go.Proofs.Ytnclljamcfoolaa
namespace Go.Proofs.Ytnclljamcfoolaa
open Go.RowKit Go.Shelf
set_option linter.unusedVariables false
set_option linter.unusedSimpArgs false

theorem game_ok (j : Job) (A : Option Addr) (c : Nat) (u : Rg) (bg bm mb : Nat) (hj : jobErr j = 0) : ∀ l, StopsOk j A c u bg bm mb l
  | 0 => stops_of_stroke j A c u bg bm mb 0 (stroke_zero j A c u bg bm mb)
  | l + 1 => stops_of_stroke j A c u bg bm mb (l + 1) (stroke_of_reads j A c u bg bm mb l hj (reads_of_stops j A c u bg bm mb l hj (game_ok j A c u bg bm mb hj l)))
theorem reads_ok (j : Job) (A : Option Addr) (c : Nat) (u : Rg) (bg bm mb l : Nat) (hj : jobErr j = 0) : ReadsOk j A c u bg bm mb l := reads_of_stops j A c u bg bm mb l hj (game_ok j A c u bg bm mb hj l)
theorem stroke_ok (j : Job) (A : Option Addr) (c : Nat) (u : Rg) (bg bm mb : Nat) (hj : jobErr j = 0) : ∀ l, StrokeOk j A c u bg bm mb l
  | 0 => stroke_zero j A c u bg bm mb
  | l + 1 => stroke_of_reads j A c u bg bm mb l hj (reads_ok j A c u bg bm mb l hj)
theorem below_gs {mb : Nat} {w X W : World} (h : Below w.heap.size w X) (hm : w.heap.size ≤ mb) (hS : GS mb X W) : Below w.heap.size w W :=
  ⟨hS.os.trans h.os, hS.tape.trans h.tape, hS.output.trans h.output, Nat.le_trans h.size hS.size, fun k hk => (hS.block k (Nat.lt_of_lt_of_le hk h.size) (by omega)).trans (h.block k hk)⟩
theorem size104 : (Try.prog.info? 104).map (·.size) = some 1 := by kernel_rfl

set_option maxRecDepth 100000 in
set_option maxHeartbeats 4000000 in
theorem play_calls (j : Job) (A : Option Addr) (c : Nat) (w : World) (h : Row Rg.cs 2 w A j.shifts) (hj : jobErr j = 0) :
    Calls Try.prog 60 #[j.v A c] w fun e w' => ∃ bg bm mb, e = .returned (gameV j A c (surelyR j) bg bm) ∧ Hid (GI j A c (surelyR j) bg bm mb w') ∧ Hid (w.heap.size ≤ mb) ∧ Below w.heap.size w w' := by
  have hW := Lib.hid (fun w h => windows_calls j A c w h hj)
  obtain ⟨u, hu⟩ : ∃ u, surelyR j = u := ⟨_, rfl⟩
  obtain ⟨m, hm⟩ : ∃ m, maybeR j = m := ⟨_, rfl⟩
  rw [hu, hm] at hW
  rw [hu]
  clear hu hm
  unfold Job.v at *
  go_enter Try.func60, Try.ntmps60
  go_upto_region 1 with (fail)
  generalize hW : (w.alloc _).alloc _ = W
  generalize h2_ : w.heap.size + 1 = g2
  generalize h1_ : w.heap.size = g1
  obtain ⟨hB0_, Hg1, Hg2, kg1, kg2, fg1, fg2, lg1, lg2, bg1, bg2, ng12, ng21⟩ := gen2 w _ _ _ _ hW h2_ h1_
  clear hW h1_ h2_
  have H0W := Lib.hid hB0_
  clear hB0_
  have HHg1 := Lib.hid Hg1
  have HHg2 := Lib.hid Hg2
  clear Hg1 Hg2
  have HR := Lib.hid (h.below H0W.out)
  clear h
  have HB := Lib.hid (Below.refl W.heap.size W)
  go_upto_region 2 with (first
    | ((with_reducible refine ld_gate 51 rfl ?_); refine wpList_load_row rfl 51 _ rfl g1 rfl 51 _ (0, 0) _ ((HB.out.block _ lg1).trans HHg1.out) Try.underlying51 rfl size51g ?_)
    | (go_at_call 87; refine (hW.out _ (HR.out.below HB.out)).mono ?_; rintro e_ w1 ⟨rfl, hb_⟩; have HB_ := Lib.hid (bl_then2 (by (repeat (with_reducible first | exact HB.out | apply bl_alloc2 | apply bl_drew2 | apply bl_drewN2))) hb_); clear HB hb_; (try clear hq); have HB := HB_; clear HB_; have hq := CB.of HB.out))
  generalize hW : (w1.alloc _).alloc _ = V
  generalize h2_ : w1.heap.size + 1 = v2
  generalize h1_ : w1.heap.size = v1
  obtain ⟨hB0_, Hv1, Hv2, kv1, kv2, fv1, fv2, lv1, lv2, bv1, bv2, nv12, nv21⟩ := gen2 w1 _ _ _ _ hW h2_ h1_
  clear hW h1_ h2_
  have H0V := Lib.hid hB0_
  clear hB0_
  have HHv1 := Lib.hid Hv1
  have HHv2 := Lib.hid Hv2
  clear Hv1 Hv2
  have HWV := Lib.hid (bl_then HB.out H0V.out)
  have G1V := Lib.hid ((HWV.out.block _ lg1).trans HHg1.out)
  have G2V := Lib.hid ((HWV.out.block _ lg2).trans HHg2.out)
  clear HB hq H0V kg1 kg2 kv2 HHg1 HHg2 hW HR
  go_upto_region 3 with (first
    | ((with_reducible refine ld_gate 51 rfl ?_); refine wpList_load_row rfl 51 _ rfl g1 rfl 51 _ (0, 0) _ G1V.out Try.underlying51 rfl size51g ?_)
    | ((with_reducible refine st_gate 106 rfl ?_); refine wpList_store_row rfl 106 _ _ rfl _ _ rfl rfl 106 _ (heap_alloc_at _ _ _ rfl) size106 (by simp) (by simp [Value.oneCell']) ?_))
  generalize hbg : V.heap.size = bg
  generalize hX : (V.alloc _).setRow bg _ = X
  have GX := Lib.hid (hX ▸ setRow_heap (heap_alloc_at V _ bg hbg.symm))
  have HBX : Below V.heap.size V X := hX ▸ bl_setRow (bl_alloc (Below.refl _ _) _) (hbg ▸ Nat.le_refl _) _
  have G2X := Lib.hid ((HBX.block _ (Array.getElem?_eq_some_iff.1 G2V.out).1).trans G2V.out)
  have HWX := Lib.hid (bl_then HWV.out HBX)
  have bgV : V.heap.size ≤ bg := hbg ▸ Nat.le_refl _
  have lV := HWV.out.size
  clear hX hbg HBX G1V G2V kv1
  have hmk : ∀ w, (Instr.makeMap 143 none).run Try.prog w = .ok (.map (some w.heap.size)) (w.alloc (.map #[] 0)) := fun w => rfl
  go_upto_region 4 with (fail)
  generalize hmb : X.heap.size = mb
  generalize hbm : mb + 1 = bm
  generalize hY : (X.alloc _).alloc _ = Y
  have hBY : Below X.heap.size X Y := by rw [← hY]; exact bl_alloc (bl_alloc (Below.refl _ _) _) _
  have hM : Y.heap[mb]? = some (.map #[] 0) := by rw [← hY]; exact (Below.heap_alloc _ _ mb (by simp; omega)).trans (heap_alloc_at X _ mb hmb.symm)
  have hB : Y.heap[bm]? = some (.cells #[.map (some mb)] 143 (0, 0)) := by rw [← hY]; exact heap_alloc_at _ _ bm (by simp; omega)
  have lbg := (Array.getElem?_eq_some_iff.1 GX.out).1
  have lg2X := (Array.getElem?_eq_some_iff.1 G2X.out).1
  have GY := Lib.hid ((hBY.block _ lbg).trans GX.out)
  have G2Y := Lib.hid ((hBY.block _ lg2X).trans G2X.out)
  have HWY := Lib.hid (bl_then HWX.out hBY)
  have n1 : bm ≠ bg := by omega
  have n2 : mb ≠ bg := by omega
  have n3 : g2 ≠ bg := by omega
  have n4 : bm ≠ g2 := by omega
  have n5 : mb ≠ g2 := by omega
  have bgw : w.heap.size ≤ bg := by have := H0W.out.size; omega
  have HM := Lib.hid hM
  have HBM := Lib.hid hB
  clear hM hB hBY hY hmk GX G2X HWX
  go_upto_region 5 with ((with_reducible refine st_gate 104 rfl ?_); refine wpList_store_blk rfl 104 _ _ rfl bg 20 [stopsV bg bm] rfl rfl 106 _ #[Value.int IntKind.i64 j.t.pitch.mn, Value.int IntKind.i64 j.t.pitch.mx, Value.int IntKind.i64 j.t.tip.mn, Value.int IntKind.i64 j.t.tip.mx, Value.int IntKind.i64 j.t.root.mn, Value.int IntKind.i64 j.t.root.mx, Value.int IntKind.i64 j.f.up.mn, Value.int IntKind.i64 j.f.up.mx, Value.int IntKind.i64 j.f.down.mn, Value.int IntKind.i64 j.f.down.mx, Value.int IntKind.i64 j.f.tipw.mn, Value.int IntKind.i64 j.f.tipw.mx, Value.int IntKind.i64 j.f.rootw.mn, Value.int IntKind.i64 j.f.rootw.mx, Value.int IntKind.i64 j.f.least, Value.slice A j.shifts.length c, Value.int IntKind.i64 j.within, Value.int IntKind.i64 j.meter, Value.int IntKind.i64 u.mn, Value.int IntKind.i64 u.mx, Value.func (.func 90) #[] #[.pointer (some ⟨bg, 0, none⟩), .pointer (some ⟨bm, 0, none⟩)]] GY.out size104 (by simp) (by simp [Value.oneCell']) (by simp) (fun w7 hg7 hw7 => ?_))
  have G27 := (hw7.block _ n3).trans G2Y.out
  go_wp2_with (first
    | ((with_reducible refine ld_gate 106 rfl ?_); refine wpList_load_row rfl 106 _ rfl bg rfl 106 _ (0, 0) _ hg7 Try.underlying106 rfl size106 ?_)
    | ((with_reducible refine st_gate 106 rfl ?_); refine wpList_store_row rfl 106 _ _ rfl g2 _ rfl rfl 106 _ G27 size106 (by simp) (by simp [Value.oneCell']) ?_))
  have hsr := fun k (hk : k ≠ g2) => (wrote_setRow w7 g2 #[Value.int IntKind.i64 j.t.pitch.mn, Value.int IntKind.i64 j.t.pitch.mx, Value.int IntKind.i64 j.t.tip.mn, Value.int IntKind.i64 j.t.tip.mx, Value.int IntKind.i64 j.t.root.mn, Value.int IntKind.i64 j.t.root.mx, Value.int IntKind.i64 j.f.up.mn, Value.int IntKind.i64 j.f.up.mx, Value.int IntKind.i64 j.f.down.mn, Value.int IntKind.i64 j.f.down.mx, Value.int IntKind.i64 j.f.tipw.mn, Value.int IntKind.i64 j.f.tipw.mx, Value.int IntKind.i64 j.f.rootw.mn, Value.int IntKind.i64 j.f.rootw.mx, Value.int IntKind.i64 j.f.least, Value.slice A j.shifts.length c, Value.int IntKind.i64 j.within, Value.int IntKind.i64 j.meter, Value.int IntKind.i64 u.mn, Value.int IntKind.i64 u.mx, Value.func (.func 90) #[] #[.pointer (some ⟨bg, 0, none⟩), .pointer (some ⟨bm, 0, none⟩)]]).block k hk
  exact ret_row rfl g2 106 _ _ rfl (setRow_heap G27) Try.underlying106 rfl size106 rfl ⟨bg, bm, mb, rfl, Lib.hid ⟨(hsr _ n3.symm).trans hg7, (hsr _ n4).trans ((hw7.block _ n1).trans HBM.out), #[], 0, (hsr _ n5).trans ((hw7.block _ n2).trans HM.out), fun e he => by simp at he⟩, Lib.hid (by have := H0W.out.size; omega), bl_setRow (hw7.below (bl_then H0W.out HWY.out) bgw) bg2 _⟩

theorem jobErr_pitch {j : Job} (hj : jobErr j = 0) : -60 ≤ j.t.pitch.mn ∧ j.t.pitch.mx ≤ 60 ∧ j.t.pitch.mn ≤ j.t.pitch.mx := by
  obtain ⟨h1, -⟩ := jobErr_zero hj
  have := rgErr_zero h1
  omega
theorem KP.start {j : Job} (hj : jobErr j = 0) {l : Nat} (hl : l ≤ 4) : KP l 0 0 j.t.pitch := by
  have := jobErr_pitch hj
  unfold KP
  omega

set_option maxRecDepth 100000 in
set_option maxHeartbeats 4000000 in
theorem guided1_calls (j : Job) (A : Option Addr) (c : Nat) (u : Rg) (bg bm mb gx jx l : Nat) (hj : jobErr j = 0) (hl : l ≤ 4) (w : World) (hG : GI j A c u bg bm mb w) (h1 : w.heap[gx]? = some (.cells #[Value.int IntKind.i64 j.t.pitch.mn, Value.int IntKind.i64 j.t.pitch.mx, Value.int IntKind.i64 j.t.tip.mn, Value.int IntKind.i64 j.t.tip.mx, Value.int IntKind.i64 j.t.root.mn, Value.int IntKind.i64 j.t.root.mx, Value.int IntKind.i64 j.f.up.mn, Value.int IntKind.i64 j.f.up.mx, Value.int IntKind.i64 j.f.down.mn, Value.int IntKind.i64 j.f.down.mx, Value.int IntKind.i64 j.f.tipw.mn, Value.int IntKind.i64 j.f.tipw.mx, Value.int IntKind.i64 j.f.rootw.mn, Value.int IntKind.i64 j.f.rootw.mx, Value.int IntKind.i64 j.f.least, Value.slice A j.shifts.length c, Value.int IntKind.i64 j.within, Value.int IntKind.i64 j.meter, Value.int IntKind.i64 u.mn, Value.int IntKind.i64 u.mx, Value.func (.func 90) #[] #[.pointer (some ⟨bg, 0, none⟩), .pointer (some ⟨bm, 0, none⟩)]] 106 (0, 0))) (h2 : w.heap[jx]? = some (.cells #[Value.int IntKind.i64 j.t.pitch.mn, Value.int IntKind.i64 j.t.pitch.mx, Value.int IntKind.i64 j.t.tip.mn, Value.int IntKind.i64 j.t.tip.mx, Value.int IntKind.i64 j.t.root.mn, Value.int IntKind.i64 j.t.root.mx, Value.int IntKind.i64 j.f.up.mn, Value.int IntKind.i64 j.f.up.mx, Value.int IntKind.i64 j.f.down.mn, Value.int IntKind.i64 j.f.down.mx, Value.int IntKind.i64 j.f.tipw.mn, Value.int IntKind.i64 j.f.tipw.mx, Value.int IntKind.i64 j.f.rootw.mn, Value.int IntKind.i64 j.f.rootw.mx, Value.int IntKind.i64 j.f.least, Value.slice A j.shifts.length c, Value.int IntKind.i64 j.within, Value.int IntKind.i64 j.meter] 51 (0, 0))) :
    Calls Try.prog 62 #[.int .i64 l, .pointer (some ⟨gx, 0, none⟩), .pointer (some ⟨jx, 0, none⟩)] w fun e w' => e = .returned (.bool (readsR j u l j.t.pitch 0 0)) ∧ Hid (GI j A c u bg bm mb w') ∧ Hid (GS mb w w') := by
  have hR := Lib.hid (reads_ok j A c u bg bm mb l hj j.t.pitch 0 0 w (KP.start hj hl) hG)
  have H1 := Lib.hid h1
  have c2 := fun k => cell_of_row w jx k _ _ _ h2
  clear h1 h2 hG
  go_enter Try.func62, Try.ntmps62
  go_wp2_with (first
    | ((with_reducible refine ld_gate 106 rfl ?_); refine wpList_load_row rfl 106 _ rfl gx rfl 106 _ (0, 0) _ H1.out Try.underlying106 rfl size106 ?_)
    | (go_at_call 63; refine hR.out.mono ?_; rintro e_ w2 ⟨rfl, hG2, hS2⟩))
  go_ret
  exact ⟨rfl, Lib.hid hG2, Lib.hid hS2⟩

@[reducible] def fewV : Option Nat → Value
  | some n => .tuple #[.int .i64 n, .bool true]
  | none => .tuple #[.int .i64 0, .bool false]
theorem fewestR_at (f : Nat → Bool) (k n : Nat) : fewestR f (k + 1) n = if f n then some n else fewestR f k (n + 1) := rfl

set_option maxRecDepth 100000 in
set_option maxHeartbeats 4000000 in
theorem fewest_calls (j : Job) (A : Option Addr) (c : Nat) (u : Rg) (bg bm mb gx jx : Nat) (hj : jobErr j = 0) (w : World) (hG : GI j A c u bg bm mb w) (h1 : w.heap[gx]? = some (.cells #[Value.int IntKind.i64 j.t.pitch.mn, Value.int IntKind.i64 j.t.pitch.mx, Value.int IntKind.i64 j.t.tip.mn, Value.int IntKind.i64 j.t.tip.mx, Value.int IntKind.i64 j.t.root.mn, Value.int IntKind.i64 j.t.root.mx, Value.int IntKind.i64 j.f.up.mn, Value.int IntKind.i64 j.f.up.mx, Value.int IntKind.i64 j.f.down.mn, Value.int IntKind.i64 j.f.down.mx, Value.int IntKind.i64 j.f.tipw.mn, Value.int IntKind.i64 j.f.tipw.mx, Value.int IntKind.i64 j.f.rootw.mn, Value.int IntKind.i64 j.f.rootw.mx, Value.int IntKind.i64 j.f.least, Value.slice A j.shifts.length c, Value.int IntKind.i64 j.within, Value.int IntKind.i64 j.meter, Value.int IntKind.i64 u.mn, Value.int IntKind.i64 u.mx, Value.func (.func 90) #[] #[.pointer (some ⟨bg, 0, none⟩), .pointer (some ⟨bm, 0, none⟩)]] 106 (0, 0))) (h2 : w.heap[jx]? = some (.cells #[Value.int IntKind.i64 j.t.pitch.mn, Value.int IntKind.i64 j.t.pitch.mx, Value.int IntKind.i64 j.t.tip.mn, Value.int IntKind.i64 j.t.tip.mx, Value.int IntKind.i64 j.t.root.mn, Value.int IntKind.i64 j.t.root.mx, Value.int IntKind.i64 j.f.up.mn, Value.int IntKind.i64 j.f.up.mx, Value.int IntKind.i64 j.f.down.mn, Value.int IntKind.i64 j.f.down.mx, Value.int IntKind.i64 j.f.tipw.mn, Value.int IntKind.i64 j.f.tipw.mx, Value.int IntKind.i64 j.f.rootw.mn, Value.int IntKind.i64 j.f.rootw.mx, Value.int IntKind.i64 j.f.least, Value.slice A j.shifts.length c, Value.int IntKind.i64 j.within, Value.int IntKind.i64 j.meter] 51 (0, 0))) (hgx : gx ≠ mb) (hjx : jx ≠ mb) :
    Calls Try.prog 61 #[.func (.func 62) #[] #[.pointer (some ⟨gx, 0, none⟩), .pointer (some ⟨jx, 0, none⟩)]] w fun e w' => e = .returned (fewV (fewestR (fun n => readsR j u n j.t.pitch 0 0) 5 0)) ∧ Hid (GI j A c u bg bm mb w') ∧ Hid (GS mb w w') := by
  have HG := Lib.hid hG
  have H1 := Lib.hid h1
  have H2 := Lib.hid h2
  clear hG h1 h2
  obtain ⟨f, hf⟩ : ∃ f : Nat → Bool, (fun n => readsR j u n j.t.pitch 0 0) = f := ⟨_, rfl⟩
  have HF := Lib.hid (show ∀ n, readsR j u n j.t.pitch 0 0 = f n from fun n => by rw [← hf])
  rw [hf]
  clear hf
  go_enter Try.func61, Try.ntmps61
  go_upto_block 0 with (fail)
  go_wp2_with fail
  go_loopw [5] (fun s wr => ∃ n : Nat, n ≤ 5 ∧ s = .int .i64 n ∧ Hid (GI j A c u bg bm mb wr ∧ GS mb w wr ∧ fewestR f 5 0 = fewestR f (5 - n) n)) (fun s _ => 5 - (intOf s).toNat)
  case atStart => exact ⟨0, by omega, rfl, Lib.hid ⟨HG.out, GS.of_below (Below.refl _ _), rfl⟩⟩
  case round =>
    obtain ⟨n, hn, rfl, HH⟩ := hrel
    by_cases hlt : n < 5
    · have hlti : ((n : Int) < 5) := by omega
      have hC := guided1_calls j A c u bg bm mb gx jx n hj (by omega) wr HH.out.1 ((HH.out.2.1.block _ (Array.getElem?_eq_some_iff.1 H1.out).1 hgx).trans H1.out) ((HH.out.2.1.block _ (Array.getElem?_eq_some_iff.1 H2.out).1 hjx).trans H2.out)
      rw [HF.out n] at hC
      obtain ⟨b, hb⟩ : ∃ b, f n = b := ⟨_, rfl⟩
      rw [hb] at hC
      have HB := Lib.hid hb
      have HC := Lib.hid hC
      clear hb hC
      have hfe : fewestR f 5 0 = if f n then some n else fewestR f (5 - (n + 1)) (n + 1) := by rw [HH.out.2.2, show 5 - n = (5 - (n + 1)) + 1 by omega]; rfl
      rw [HB.out] at hfe
      have HFE := Lib.hid hfe
      clear hfe
      go_upto_if 10 with (go_at_call 62; refine HC.out.mono ?_; rintro e_ w2 ⟨rfl, hG2, hS2⟩)
      cases b with
      | true =>
        go_wp2_with fail
        go_ret2
        exact ⟨by rw [HFE.out]; rfl, hG2, Lib.hid (HH.out.2.1.trans hS2.out)⟩
      | false =>
        go_wp2_with fail
        refine ⟨⟨n + 1, by omega, by simp, Lib.hid ⟨hG2.out, HH.out.2.1.trans hS2.out, HFE.out⟩⟩, ?_⟩
        simp [intOf]; omega
    · have hlti : ¬ ((n : Int) < 5) := by omega
      go_wp2_with fail
      go_ret2
      obtain rfl : n = 5 := by omega
      exact ⟨by rw [HH.out.2.2]; rfl, Lib.hid HH.out.1, Lib.hid HH.out.2.1⟩

/-- what Guided answers -/
@[reducible] def guidedV (j : Job) : Value := match guidedR j with
  | some n => .tuple #[.int .i64 n, .int .i64 0]
  | none => .tuple #[.int .i64 0, .int .i64 11]

set_option maxRecDepth 100000 in
set_option maxHeartbeats 4000000 in
theorem Guided_calls (j : Job) (A : Option Addr) (c : Nat) (w : World) (h : Row Rg.cs 2 w A j.shifts) (hj : jobErr j = 0) (hm : j.shifts.length ≤ 1000000000000000) :
    Calls Try.prog 19 #[j.v A c] w fun e w' => e = .returned (guidedV j) ∧ Below w.heap.size w w' := by
  have hC := Lib.hid (fun w h => reedCheck_calls j A c w h hm)
  rw [hj] at hC
  have hP := Lib.hid (fun w h => play_calls j A c w h hj)
  unfold Job.v at *
  go_enter Try.func19, Try.ntmps19
  go_upto_region 1 with (fail)
  generalize hW : w.alloc _ = W
  generalize h1_ : w.heap.size = g1
  obtain ⟨hB0_, Hg1, kg1, fg1, lg1, bg1⟩ := gen1 w _ _ hW h1_
  clear hW h1_
  have H0W := Lib.hid hB0_
  clear hB0_
  have HHg1 := Lib.hid Hg1
  clear Hg1
  have HB := Lib.hid (Below.refl W.heap.size W)
  have HR := Lib.hid (h.below H0W.out)
  clear h
  go_upto_region 5 with (first
    | ((with_reducible refine ld_gate 51 rfl ?_); refine wpList_load_row rfl 51 _ rfl g1 rfl 51 _ (0, 0) _ ((HB.out.block _ lg1).trans HHg1.out) Try.underlying51 rfl size51g ?_)
    | (go_at_call 58; refine (hC.out _ (HR.out.below HB.out)).mono ?_; rintro e_ w1 ⟨rfl, hb_⟩; have HB_ := Lib.hid (bl_then2 (by (repeat (with_reducible first | exact HB.out | apply bl_alloc2 | apply bl_drew2 | apply bl_drewN2))) hb_); clear HB hb_; (try clear hq); have HB := HB_; clear HB_; have hq := CB.of HB.out)
    | (go_at_call 60; refine (hP.out _ (HR.out.below HB.out)).mono ?_; rintro e_ w1 ⟨bg, bm, mb, rfl, hG, hmb9, hb_⟩; have hmb8 := Lib.hid (Nat.le_trans HB.out.size hmb9.out); clear hmb9; have HB_ := Lib.hid (bl_then2 (by (repeat (with_reducible first | exact HB.out | apply bl_alloc2 | apply bl_drew2 | apply bl_drewN2))) hb_); clear HB hb_; (try clear hq); have HB := HB_; clear HB_; have hq := CB.of HB.out)
    | ((with_reducible refine st_gate 106 rfl ?_); refine wpList_store_row rfl 106 _ _ rfl _ _ rfl rfl 106 _ (heap_alloc_at _ _ _ rfl) size106 (by simp) (by simp [Value.oneCell']) ?_))
  generalize hgx : w1.heap.size = gx
  generalize hX : (w1.alloc _).setRow gx _ = X
  have GX := Lib.hid (hX ▸ setRow_heap (heap_alloc_at w1 _ gx hgx.symm))
  have HBX : Below w1.heap.size w1 X := hX ▸ bl_setRow (bl_alloc (Below.refl _ _) _) (hgx ▸ Nat.le_refl _) _
  have HGX := Lib.hid (hG.out.below HBX)
  have HWX := Lib.hid (bl_then HB.out HBX)
  have HJX := Lib.hid ((HWX.out.block _ lg1).trans HHg1.out)
  have n1 : gx ≠ mb := by have := hG.out.lt.2.2; omega
  have n2 : g1 ≠ mb := fun e => by
    obtain ⟨es, clock, hm9, -⟩ := HGX.out.memo
    have := HJX.out
    rw [e, hm9] at this
    cases this
  have hFW := Lib.hid (fewest_calls j A c (surelyR j) bg bm mb gx g1 hj X HGX.out GX.out HJX.out n1 n2)
  have hmbw : w.heap.size ≤ mb := Nat.le_trans H0W.out.size hmb8.out
  clear hX hgx HBX HB hq hG GX HGX HJX HR hC hP kg1 HHg1
  obtain ⟨o, ho⟩ : ∃ o, fewestR (fun n => readsR j (surelyR j) n j.t.pitch 0 0) 5 0 = o := ⟨_, rfl⟩
  rw [ho] at hFW
  have HO := Lib.hid (show guidedR j = o from ho)
  clear ho
  cases o with
  | none =>
    go_wp2_with (go_at_call 61; refine hFW.out.mono ?_; rintro e_ w2 ⟨rfl, hG2, hS2⟩)
    go_ret2
    refine ⟨by unfold guidedV; rw [HO.out]; rfl, below_gs (bl_then H0W.out HWX.out) hmbw hS2.out⟩
  | some n =>
    go_wp2_with (go_at_call 61; refine hFW.out.mono ?_; rintro e_ w2 ⟨rfl, hG2, hS2⟩)
    go_ret2
    refine ⟨by unfold guidedV; rw [HO.out]; rfl, below_gs (bl_then H0W.out HWX.out) hmbw hS2.out⟩

end Go.Proofs.Ytnclljamcfoolaa
