/- Walk of ref02.With for an ear of one tone with counts. Walks of the reference of layer 1: the checks of a job. -/
import Derived.Test.YtnclljamcfoolaaHd11
import Derived.Test.YtnclljamcfoolaaHd12
import Derived.Test.YtnclljamcfoolaaHd4
import Derived.Test.YtnclljamcfoolaaHd13
import Derived.Test.YtnclljamcfoolaaHd1
namespace Go.Proofs.Ytnclljamcfoolaa
open Go.RowKit Go.Shelf Go.Maps
set_option linter.unusedVariables false
set_option linter.unusedSimpArgs false

theorem OwnL.slice {w : World} {base n : Nat} {v : Value} (h : OwnL w base n v) : ∃ A c, v = .slice A n c ∧ True := by
  obtain ⟨l, -, -, -, ⟨rfl, rfl⟩ | ⟨g, cap, cur, rfl, -⟩⟩ := h
  · exact ⟨_, _, rfl, trivial⟩
  · exact ⟨_, _, rfl, trivial⟩
theorem ready_deps {md : Region.Mode} {ops : Array Oper} {l : Array Bool} {i : Nat} {x : Oper} (h : i ∈ Region.ready md ops l) (hx : ops[i]? = some x) : (x.after.toList.all fun e => !Region.binds md e || l.getD e.on false) = true := by
  obtain ⟨-, y, hy, hd⟩ := mem_ready.1 h
  rw [hx] at hy
  cases hy
  rw [List.all_eq_true]
  intro e he
  cases hb : Region.binds md e with
  | false => rfl
  | true => simpa using hd e (by simpa using he) hb
theorem ready_end {md : Region.Mode} {ops : Array Oper} {l : Array Bool} {i : Nat} {x : Oper} (h : Region.ready md ops l = []) (hx : ops[i]? = some x) (hd : (x.after.toList.all fun e => !Region.binds md e || l.getD e.on false) = true) : l.getD i true = true := by
  cases hl : l.getD i true with
  | true => rfl
  | false =>
    exfalso
    have : i ∈ Region.ready md ops l := mem_ready.2 ⟨hl, x, hx, fun e he hb => by
      have := List.all_eq_true.1 hd e (by simpa using he)
      rw [hb] at this
      simpa using this⟩
    rw [h] at this
    cases this
/-- a block of one's own, known whole -/
def Bk (w : World) (B p : Nat) (cs : Array Value) (e : TypeId) : Prop := B ≤ p ∧ w.heap[p]? = some (.cells cs e (0, 0))
theorem Bk.below {w w' : World} {B p : Nat} {cs : Array Value} {e : TypeId} (h : Bk w B p cs e) (hb : Below w.heap.size w w') : Bk w' B p cs e := ⟨h.1, (hb.block _ (Array.getElem?_eq_some_iff.1 h.2).1).trans h.2⟩
theorem Bk.grown {w w' : World} {B p : Nat} {cs : Array Value} {e : TypeId} {row : Option Nat} (h : Bk w B p cs e) (hg : w.grownBy w' row) (hn : some p ≠ row) : Bk w' B p cs e := ⟨h.1, (hg.block _ (Array.getElem?_eq_some_iff.1 h.2).1 hn).trans h.2⟩
theorem Bk.new {w : World} {B : Nat} {cs : Array Value} {e : TypeId} (h : B ≤ w.heap.size) : Bk (w.alloc (.cells cs e)) B w.heap.size cs e := ⟨h, heap_new _ _⟩
theorem Bk.lt {w : World} {B p : Nat} {cs : Array Value} {e : TypeId} (h : Bk w B p cs e) : p < w.heap.size := (Array.getElem?_eq_some_iff.1 h.2).1
theorem own_wroteB {w w' : World} {p base e e' size n : Nat} {v : Value} {xs : List Value} {cs : Array Value} (h : w.ownsRow base e size v n xs) (hw : Wrote w w' p) (hp : w.heap[p]? = some (.cells cs e' (0, 0))) (he : e' ≠ e) : w'.ownsRow base e size v n xs := by
  have hn := blk_ne_own hp h he
  obtain ⟨q1, q2 | ⟨gq, capq, curq, rfl, q4, q5, q6⟩⟩ := h
  · exact ⟨q1, .inl q2⟩
  · exact ⟨q1, .inr ⟨gq, capq, curq, rfl, q4, (hw.block gq (fun e => hn (by rw [e]; rfl))).trans q5, q6⟩⟩
structure G14 (B : Nat) (x : Rg) (rs : List Rd) (r : Rd) (f2 f5 f6 f9 f11 f12 f14 : Bool) (s31 s34 s35 s38 s40 s41 s8 : Value) (w : World) : Prop where
  h31 : f2 = true → f5 = false → ∃ p, s31 = .slice (some ⟨p, 0, none⟩) 0 0 ∧ Bk w B p #[] 26
  h34 : f5 = true → w.ownsRow B 26 2 s34 1 (flat Rg.cs [x])
  h35 : f6 = true → f9 = false → ∃ p, s35 = .slice (some ⟨p, 0, none⟩) 0 0 ∧ Bk w B p #[] 53
  h38 : f9 = true → f12 = false → w.ownsRow B 53 6 s38 rs.length (flat Rd.cs rs)
  h40 : f11 = true → f12 = false → ∃ p, s40 = .slice (some ⟨p, 0, none⟩) 1 1 ∧ Bk w B p (Rd.cs r).toArray 53
  h41 : f12 = true → w.ownsRow B 53 6 s41 (rs.length + 1) (flat Rd.cs (rs ++ [r]))
  h8 : f14 = true → ∃ p, s8 = .pointer (some ⟨p, 0, none⟩) ∧ Bk w B p #[.int .i64 0, .slice none 0 0, .slice none 0 0] 41
theorem ex_mono {P Q : Nat → Prop} (h : ∃ p, P p) (f : ∀ p, P p → Q p) : ∃ p, Q p := h.imp f
theorem G14.below {B : Nat} {x : Rg} {rs : List Rd} {r : Rd} {f2 f5 f6 f9 f11 f12 f14 : Bool} {s31 s34 s35 s38 s40 s41 s8 : Value} {w w' : World} (h : G14 B x rs r f2 f5 f6 f9 f11 f12 f14 s31 s34 s35 s38 s40 s41 s8 w) (hb : Below w.heap.size w w') : G14 B x rs r f2 f5 f6 f9 f11 f12 f14 s31 s34 s35 s38 s40 s41 s8 w' :=
  ⟨fun a b => ex_mono (h.h31 a b) fun p hp => ⟨hp.1, hp.2.below hb⟩, fun a => own_below (h.h34 a) hb, fun a b => ex_mono (h.h35 a b) fun p hp => ⟨hp.1, hp.2.below hb⟩, fun a b => own_below (h.h38 a b) hb, fun a b => ex_mono (h.h40 a b) fun p hp => ⟨hp.1, hp.2.below hb⟩, fun a => own_below (h.h41 a) hb, fun a => ex_mono (h.h8 a) fun p hp => ⟨hp.1, hp.2.below hb⟩⟩
set_option maxRecDepth 100000 in
set_option maxHeartbeats 4000000 in
theorem with14_bad (slack : Int) (x : Rg) (ls : List Ct) (r : Rd) (hl6 : ls.length ≤ 6) (he : earErr (earC slack x ls) = 0) (b o c1 : Nat) (A2 : Option Addr) (c2 : Nat) (w : World) (h1 : Row Rg.cs 2 w (some ⟨b, o, none⟩) [x]) (h2 : Row Rd.cs 6 w A2 (ls.map Ct.rd)) (E : Int) (hE : readErr r 1 = E) (hE0 : E ≠ 0) :
    Calls Try.prog 14 #[.agg #[.int .i64 slack, .slice (some ⟨b, o, none⟩) 1 c1, .slice A2 ls.length c2], r.v] w fun ed w' => ed = .returned (.tuple #[ear0, .int .i64 E]) ∧ Below w.heap.size w w' := by
  have hC := Lib.hid (ref2Check_calls (earC slack x ls) (some ⟨b, o, none⟩) A2 c1 c2)
  rw [he] at hC
  simp only [earC, List.length_map, List.length_cons, List.length_nil, Nat.zero_add] at hC
  have hCR := Lib.hid (fun w => checkReading2_calls r 1 w (by omega))
  rw [show ((1 : Nat) : Int) = 1 from rfl] at hCR
  rw [hE] at hCR
  have hEb : (E != 0) = true := by simpa using hE0
  go_enter Try.func14, Try.ntmps14
  go_upto_region 1 with (fail)
  generalize hW : ((w.alloc _).alloc _).alloc _ = W
  generalize h3_ : w.heap.size + 1 + 1 = g3
  generalize h2_ : w.heap.size + 1 = g2
  generalize h1_ : w.heap.size = g1
  obtain ⟨hB0_, Hg1, Hg2, Hg3, kg1, kg2, kg3, fg1, fg2, fg3, lg1, lg2, lg3, bg1, bg2, bg3, ng12, ng13, ng21, ng23, ng31, ng32⟩ := gen3 w _ _ _ _ _ _ hW h3_ h2_ h1_
  clear hW h1_ h2_ h3_
  have H0W := Lib.hid hB0_
  clear hB0_
  have HHg1 := Lib.hid Hg1
  have HHg2 := Lib.hid Hg2
  have HHg3 := Lib.hid Hg3
  clear Hg1 Hg2 Hg3
  have HB := Lib.hid (Below.refl W.heap.size W)
  have HR := Lib.hid (h1.below H0W.out)
  have HR2 := Lib.hid (h2.below H0W.out)
  clear h1 h2 hE
  go_wp2_with (first
    | ((with_reducible refine ld_gate 41 rfl ?_); refine wpList_load_row rfl 41 _ rfl g1 rfl 41 _ (0, 0) _ ((HB.out.block _ lg1).trans HHg1.out) Try.underlying41 rfl size41 ?_)
    | ((with_reducible refine ld_gate 53 rfl ?_); refine wpList_load_row rfl 53 _ rfl g2 rfl 53 _ (0, 0) _ ((HB.out.block _ lg2).trans HHg2.out) Try.underlying53 rfl size53 ?_)
    | (go_at_call 9; refine (hC.out _ (HR.out.below HB.out) (HR2.out.below HB.out) (by omega) (by omega)).mono ?_; rintro e_ w1 ⟨rfl, hb_⟩; have HB_ := Lib.hid (bl_then2 (by (repeat (with_reducible first | exact HB.out | apply bl_alloc2 | apply bl_drew2 | apply bl_drewN2))) hb_); clear HB hb_; (try clear hq); have HB := HB_; clear HB_; have hq := CB.of HB.out)
    | (go_at_call 40; refine (hCR.out _).mono ?_; rintro e_ w1 ⟨rfl, hb_⟩; have HB_ := Lib.hid (bl_then2 (by (repeat (with_reducible first | exact HB.out | apply bl_alloc2 | apply bl_drew2 | apply bl_drewN2))) hb_); clear HB hb_; (try clear hq); have HB := HB_; clear HB_; have hq := CB.of HB.out)
    | ((with_reducible refine st_gate 41 rfl ?_); refine wpList_store_row rfl 41 _ _ rfl g3 _ rfl rfl 41 _ ((HB.out.block _ lg3).trans HHg3.out) size41 (by simp) (by simp [Value.oneCell']) ?_))
  exact ret_row_tmp rfl g3 41 _ _ rfl (setRow_heap ((HB.out.block _ lg3).trans HHg3.out)) Try.underlying41 rfl size41 rfl ⟨rfl, bl_setRow (bl_then H0W.out HB.out) bg3 _⟩

set_option maxRecDepth 100000 in
set_option maxHeartbeats 4000000 in
theorem with14_many (slack : Int) (x : Rg) (ls : List Ct) (r : Rd) (h6 : ls.length = 6) (he : earErr (earC slack x ls) = 0) (b o c1 : Nat) (A2 : Option Addr) (c2 : Nat) (w : World) (h1 : Row Rg.cs 2 w (some ⟨b, o, none⟩) [x]) (h2 : Row Rd.cs 6 w A2 (ls.map Ct.rd)) (hE : readErr r 1 = 0) :
    Calls Try.prog 14 #[.agg #[.int .i64 slack, .slice (some ⟨b, o, none⟩) 1 c1, .slice A2 ls.length c2], r.v] w fun ed w' => ed = .returned (.tuple #[ear0, .int .i64 6]) ∧ Below w.heap.size w w' := by
  have hC := Lib.hid (ref2Check_calls (earC slack x ls) (some ⟨b, o, none⟩) A2 c1 c2)
  rw [he] at hC
  simp only [earC, List.length_map, List.length_cons, List.length_nil, Nat.zero_add] at hC
  have hCR := Lib.hid (fun w => checkReading2_calls r 1 w (by omega))
  rw [show ((1 : Nat) : Int) = 1 from rfl] at hCR
  rw [hE] at hCR
  rw [h6] at *
  clear h6
  go_enter Try.func14, Try.ntmps14
  go_upto_region 1 with (fail)
  generalize hW : ((w.alloc _).alloc _).alloc _ = W
  generalize h3_ : w.heap.size + 1 + 1 = g3
  generalize h2_ : w.heap.size + 1 = g2
  generalize h1_ : w.heap.size = g1
  obtain ⟨hB0_, Hg1, Hg2, Hg3, kg1, kg2, kg3, fg1, fg2, fg3, lg1, lg2, lg3, bg1, bg2, bg3, ng12, ng13, ng21, ng23, ng31, ng32⟩ := gen3 w _ _ _ _ _ _ hW h3_ h2_ h1_
  clear hW h1_ h2_ h3_
  have H0W := Lib.hid hB0_
  clear hB0_
  have HHg1 := Lib.hid Hg1
  have HHg2 := Lib.hid Hg2
  have HHg3 := Lib.hid Hg3
  clear Hg1 Hg2 Hg3
  have HB := Lib.hid (Below.refl W.heap.size W)
  have HR := Lib.hid (h1.below H0W.out)
  have HR2 := Lib.hid (h2.below H0W.out)
  clear h1 h2 hE
  go_wp2_with (first
    | ((with_reducible refine ld_gate 41 rfl ?_); refine wpList_load_row rfl 41 _ rfl g1 rfl 41 _ (0, 0) _ ((HB.out.block _ lg1).trans HHg1.out) Try.underlying41 rfl size41 ?_)
    | ((with_reducible refine ld_gate 53 rfl ?_); refine wpList_load_row rfl 53 _ rfl g2 rfl 53 _ (0, 0) _ ((HB.out.block _ lg2).trans HHg2.out) Try.underlying53 rfl size53 ?_)
    | (go_at_call 9; refine (hC.out _ (HR.out.below HB.out) (HR2.out.below HB.out) (by omega) (by omega)).mono ?_; rintro e_ w1 ⟨rfl, hb_⟩; have HB_ := Lib.hid (bl_then2 (by (repeat (with_reducible first | exact HB.out | apply bl_alloc2 | apply bl_drew2 | apply bl_drewN2))) hb_); clear HB hb_; (try clear hq); have HB := HB_; clear HB_; have hq := CB.of HB.out)
    | (go_at_call 40; refine (hCR.out _).mono ?_; rintro e_ w1 ⟨rfl, hb_⟩; have HB_ := Lib.hid (bl_then2 (by (repeat (with_reducible first | exact HB.out | apply bl_alloc2 | apply bl_drew2 | apply bl_drewN2))) hb_); clear HB hb_; (try clear hq); have HB := HB_; clear HB_; have hq := CB.of HB.out)
    | ((with_reducible refine st_gate 41 rfl ?_); refine wpList_store_row rfl 41 _ _ rfl g3 _ rfl rfl 41 _ ((HB.out.block _ lg3).trans HHg3.out) size41 (by simp) (by simp [Value.oneCell']) ?_))
  exact ret_row_tmp rfl g3 41 _ _ rfl (setRow_heap ((HB.out.block _ lg3).trans HHg3.out)) Try.underlying41 rfl size41 rfl ⟨rfl, bl_setRow (bl_then H0W.out HB.out) bg3 _⟩

set_option maxRecDepth 100000 in
set_option maxHeartbeats 4000000 in
theorem with14_ok (slack : Int) (x : Rg) (ls : List Ct) (r : Ct) (h6 : ls.length < 6) (he : earErr (earC slack x ls) = 0) (hls : ∀ r ∈ ls, r.Ok) (hr : r.Ok) (b o c1 : Nat) (A2 : Option Addr) (c2 : Nat) (hA : (A2 = none ∧ c2 = 0 ∧ ls = []) ∨ ∃ ad, A2 = some ad) (w : World) (h1 : Row Rg.cs 2 w (some ⟨b, o, none⟩) [x]) (h2 : Row Rd.cs 6 w A2 (ls.map Ct.rd)) :
    Calls Try.prog 14 #[.agg #[.int .i64 slack, .slice (some ⟨b, o, none⟩) 1 c1, .slice A2 ls.length c2], r.v] w fun ed w' => (∃ v k, ed = .returned (.tuple #[v, .int .i64 k]) ∧ Hid ((keptC slack x (ls ++ [r]) = [] ∧ v = ear0 ∧ k = 9) ∨ (keptC slack x (ls ++ [r]) ≠ [] ∧ k = 0 ∧ MoreV slack x (ls ++ [r]) w.heap.size v w'))) ∧ Below w.heap.size w w' := by
  have hC := Lib.hid (ref2Check_calls (earC slack x ls) (some ⟨b, o, none⟩) A2 c1 c2)
  rw [he] at hC
  simp only [earC, List.length_map, List.length_cons, List.length_nil, Nat.zero_add] at hC
  obtain ⟨hsl, hbx, -, hx20⟩ := earC_bd he
  have hrd : readErr r.rd 1 = 0 := by
    obtain ⟨a1, a2, a3, a4, a5⟩ := hr
    have b2 : r.shown.mn ≤ 25000 := by omega
    have b3 : 0 ≤ r.shown.mx := by omega
    have b4 : ¬ r.shown.mx < r.shown.mn := by omega
    simp [readErr, Ct.rd, inB, *]
  have hCR := Lib.hid (fun w => checkReading2_calls r.rd 1 w (by omega))
  rw [show ((1 : Nat) : Int) = 1 from rfl] at hCR
  rw [hrd] at hCR
  simp only [Ct.rd] at hCR
  have h6b : decide ((6 : Int) ≤ ((ls.length : Nat) : Int)) = false := by simp; omega
  have HM := Lib.hid (fun g c A2 c2 w h1 h2 => all_calls slack hsl x hbx hx20 (ls ++ [r]) (fun q hq => by rcases List.mem_append.1 hq with h | h; exact hls q h; simp at h; subst h; exact hr) (by simp; omega) g 0 c A2 c2 w h1 h2)
  simp only [List.length_append, List.length_cons, List.length_nil, Nat.zero_add] at HM
  clear he hrd hA hsl hbx hx20 hls hr
  go_enter Try.func14, Try.ntmps14
  go_upto_region 1 with (fail)
  generalize hW : ((w.alloc _).alloc _).alloc _ = W
  generalize h3_ : w.heap.size + 1 + 1 = g3
  generalize h2_ : w.heap.size + 1 = g2
  generalize h1_ : w.heap.size = g1
  obtain ⟨hB0_, Hg1, Hg2, Hg3, kg1, kg2, kg3, fg1, fg2, fg3, lg1, lg2, lg3, bg1, bg2, bg3, ng12, ng13, ng21, ng23, ng31, ng32⟩ := gen3 w _ _ _ _ _ _ hW h3_ h2_ h1_
  clear hW h1_ h2_ h3_
  have H0W := Lib.hid hB0_
  clear hB0_
  have HHg1 := Lib.hid Hg1
  have HHg2 := Lib.hid Hg2
  have HHg3 := Lib.hid Hg3
  clear Hg1 Hg2 Hg3
  have HB := Lib.hid (Below.refl W.heap.size W)
  have HR := Lib.hid (h1.below H0W.out)
  have HR2 := Lib.hid (h2.below H0W.out)
  clear h1 h2
  go_upto_region 9 with (first
    | ((with_reducible refine ld_gate 41 rfl ?_); refine wpList_load_row rfl 41 _ rfl g1 rfl 41 _ (0, 0) _ ((HB.out.block _ lg1).trans HHg1.out) Try.underlying41 rfl size41 ?_)
    | ((with_reducible refine ld_gate 53 rfl ?_); refine wpList_load_row rfl 53 _ rfl g2 rfl 53 _ (0, 0) _ ((HB.out.block _ lg2).trans HHg2.out) Try.underlying53 rfl size53 ?_)
    | (go_at_call 9; refine (hC.out _ (HR.out.below HB.out) (HR2.out.below HB.out) (by omega) (by omega)).mono ?_; rintro e_ w1 ⟨rfl, hb_⟩; have HB_ := Lib.hid (bl_then2 (by (repeat (with_reducible first | exact HB.out | apply bl_alloc2 | apply bl_drew2 | apply bl_drewN2))) hb_); clear HB hb_; (try clear hq); have HB := HB_; clear HB_; have hq := CB.of HB.out)
    | (go_at_call 40; refine (hCR.out _).mono ?_; rintro e_ V ⟨rfl, hb_⟩; have HB_ := Lib.hid (bl_then2 (by (repeat (with_reducible first | exact HB.out | apply bl_alloc2 | apply bl_drew2 | apply bl_drewN2))) hb_); clear HB hb_; (try clear hq); have HB := HB_; clear HB_; have hq := CB.of HB.out))
  have HWW := Lib.hid HB.out
  have e1 := fun j => (hq.1 _ j lg1).trans (kg1 j)
  have e2 := fun j => (hq.1 _ j lg2).trans (kg2 j)
  have HRV := Lib.hid (HR.out.below HB.out)
  have HR2V := Lib.hid (HR2.out.below HB.out)
  have l1 := Nat.lt_of_lt_of_le lg1 HB.out.size
  have l2 := Nat.lt_of_lt_of_le lg2 HB.out.size
  have l3 := Nat.lt_of_lt_of_le lg3 HB.out.size
  clear HB hq kg1 kg2 kg3 fg1 fg2 fg3
  go_cut [8] (fun s8 wx => ∃ p g c v2, s8 = .pointer (some ⟨p, 0, none⟩) ∧ Bk wx V.heap.size p #[.int .i64 slack, .slice (some ⟨g, 0, none⟩) 1 c, v2] 41 ∧ wx.ownsRow V.heap.size 26 2 (.slice (some ⟨g, 0, none⟩) 1 c) 1 (flat Rg.cs [x]) ∧ wx.ownsRow V.heap.size 53 6 v2 (ls.length + 1) (flat Rd.cs ((ls ++ [r]).map Ct.rd)) ∧ Below V.heap.size V wx)
  case first =>
    obtain ⟨i0, hI0, hz0, hz1, hz2⟩ := info_parts info53c
    obtain ⟨i1, hj, hy0, hy1, hy2⟩ := info_parts info26c
    refine wp_region_peel (S := fun w' => (∀ j, w'.cell? ⟨g1, j, none⟩ = #[Value.int .i64 slack, .slice (some ⟨b, o, none⟩) 1 c1, .slice A2 ls.length c2][j]?) ∧ (∀ j, w'.cell? ⟨g2, j, none⟩ = #[Value.int .i64 1, .int .i64 0, .int .i64 0, .int .i64 r.secs, .int .i64 r.shown.mn, .int .i64 r.shown.mx][j]?) ∧ Below V.heap.size V w') 15 _ _ (by kernel_rfl) rfl rfl rfl (by kernel_rfl) (by kernel_rfl) ⟨e1, e2, bl_drew (Below.refl _ _)⟩ (fun hHeld => ?_)
    simp only [Act.put, stillOf, List.set_cons_succ, List.set_cons_zero, List.setIfInBounds_toArray, List.getElem_toArray, List.getElem_cons_succ, List.getElem_cons_zero]
    refine wpAnyH_take (i := 0) (v := ?_) rfl (by kernel_rfl) (by kernel_rfl) (by kernel_rfl) (fun _ _ _ h => h) (Or.inl ⟨by rfl, ?_⟩) (by assumption) ?_; rotate_left 1; (focus ((intro w_ hS_; (try dsimp only at hS_); go_simp; first | done | with_reducible rfl))); simp only [Act.put, stillOf, List.set_cons_succ, List.set_cons_zero, List.setIfInBounds_toArray, List.getElem_toArray, List.getElem_cons_succ, List.getElem_cons_zero]
    refine wpAnyH_take (i := 1) (v := ?_) rfl (by kernel_rfl) (by kernel_rfl) (by kernel_rfl) (fun _ _ _ h => h) (Or.inl ⟨by rfl, ?_⟩) (by assumption) ?_; rotate_left 1; (focus ((intro w_ hS_; (try dsimp only at hS_); go_simp; first | done | with_reducible rfl))); simp only [Act.put, stillOf, List.set_cons_succ, List.set_cons_zero, List.setIfInBounds_toArray, List.getElem_toArray, List.getElem_cons_succ, List.getElem_cons_zero]
    refine wpAnyH_take (i := 3) (v := ?_) rfl (by kernel_rfl) (by kernel_rfl) (by kernel_rfl) (fun _ _ _ h => h) (Or.inl ⟨by rfl, ?_⟩) (by assumption) ?_; rotate_left 1; (focus ((intro w_ hS_; (try dsimp only at hS_); go_simp; first | done | with_reducible rfl))); simp only [Act.put, stillOf, List.set_cons_succ, List.set_cons_zero, List.setIfInBounds_toArray, List.getElem_toArray, List.getElem_cons_succ, List.getElem_cons_zero]
    refine wpAnyH_take (i := 4) (v := ?_) rfl (by kernel_rfl) (by kernel_rfl) (by kernel_rfl) (fun _ _ _ h => h) (Or.inl ⟨by rfl, ?_⟩) (by assumption) ?_; rotate_left 1; (focus ((intro w_ hS_; (try dsimp only at hS_); go_simp; first | done | with_reducible rfl))); simp only [Act.put, stillOf, List.set_cons_succ, List.set_cons_zero, List.setIfInBounds_toArray, List.getElem_toArray, List.getElem_cons_succ, List.getElem_cons_zero]
    refine wpAnyH_take (i := 7) (v := ?_) rfl (by kernel_rfl) (by kernel_rfl) (by kernel_rfl) (fun _ _ _ h => h) (Or.inl ⟨by rfl, ?_⟩) (by assumption) ?_; rotate_left 1; (focus ((intro w_ hS_; (try dsimp only at hS_); go_simp; first | done | with_reducible rfl))); simp only [Act.put, stillOf, List.set_cons_succ, List.set_cons_zero, List.setIfInBounds_toArray, List.getElem_toArray, List.getElem_cons_succ, List.getElem_cons_zero]
    refine wpAnyH_take (i := 8) (v := ?_) rfl (by kernel_rfl) (by kernel_rfl) (by kernel_rfl) (fun _ _ _ h => h) (Or.inl ⟨by rfl, ?_⟩) (by assumption) ?_; rotate_left 1; (focus ((intro w_ hS_; (try dsimp only at hS_); go_simp; first | done | with_reducible rfl))); simp only [Act.put, stillOf, List.set_cons_succ, List.set_cons_zero, List.setIfInBounds_toArray, List.getElem_toArray, List.getElem_cons_succ, List.getElem_cons_zero]
    refine wpAnyH_take (i := 10) (v := ?_) rfl (by kernel_rfl) (by kernel_rfl) (by kernel_rfl) (fun _ _ _ h => h) (Or.inl ⟨by rfl, ?_⟩) (by assumption) ?_; rotate_left 1; (focus ((intro w_ hS_; (try dsimp only at hS_); go_simp; first | done | with_reducible rfl))); simp only [Act.put, stillOf, List.set_cons_succ, List.set_cons_zero, List.setIfInBounds_toArray, List.getElem_toArray, List.getElem_cons_succ, List.getElem_cons_zero]
    have HSM := Lib.hid (show ∀ w', Below V.heap.size V w' → (∀ j, w'.cell? ⟨g1, j, none⟩ = #[Value.int .i64 slack, .slice (some ⟨b, o, none⟩) 1 c1, .slice A2 ls.length c2][j]?) ∧ (∀ j, w'.cell? ⟨g2, j, none⟩ = #[Value.int .i64 1, .int .i64 0, .int .i64 0, .int .i64 r.secs, .int .i64 r.shown.mn, .int .i64 r.shown.mx][j]?) ∧ Below V.heap.size V w' from fun w' h => ⟨fun j => ((CB.of h).1 _ _ l1).trans (e1 j), fun j => ((CB.of h).1 _ _ l2).trans (e2 j), h⟩)
    clear hHeld
    refine wpAnyH_gather (T := fun l a w => ∃ (f2 f5 f6 f9 f11 f12 f13 f14 f15 : Bool) (s31 s34 s35 s38 s40 s41 s42 s8 : Value), l = #[true, true, f2, true, true, f5, f6, true, true, f9, true, f11, f12, f13, f14, f15] ∧ a = ⟨#[.agg #[.int .i64 slack, .slice (some ⟨b, o, none⟩) 1 c1, .slice A2 ls.length c2], r.v, .pointer (some ⟨g1, 0, none⟩), .pointer (some ⟨g2, 0, none⟩), .pointer (some ⟨g3, 0, none⟩), .int .i64 0, .int .i64 0, .int .i64 0, s8, .agg #[.int .i64 slack, .slice (some ⟨b, o, none⟩) 1 c1, .slice A2 ls.length c2], .int .i64 0, .int .i64 0, .bool false, undef, undef, .agg #[.int .i64 1, .int .i64 0, .int .i64 0, .int .i64 r.secs, .int .i64 r.shown.mn, .int .i64 r.shown.mx], .pointer (some ⟨g1, 1, none⟩), .slice (some ⟨b, o, none⟩) 1 c1, .int .i64 1, .int .i64 0, .int .i64 0, .bool false, undef, undef, .pointer (some ⟨g1, 2, none⟩), .slice A2 ls.length c2, .int .i64 (ls.length : Int), .bool false, undef, .pointer (some ⟨g1, 0, none⟩), .int .i64 slack, s31, .pointer (some ⟨g1, 1, none⟩), .slice (some ⟨b, o, none⟩) 1 c1, s34, s35, .pointer (some ⟨g1, 2, none⟩), .slice A2 ls.length c2, s38, .agg #[.int .i64 1, .int .i64 0, .int .i64 0, .int .i64 r.secs, .int .i64 r.shown.mn, .int .i64 r.shown.mx], s40, s41, s42, undef, undef, undef, undef, undef, undef], []⟩ ∧ (f12 = true → f9 = true) ∧ (f13 = true → f5 = true ∧ f12 = true ∧ s42 = .agg #[.int .i64 slack, s34, s41]) ∧ Below V.heap.size V w ∧ G14 V.heap.size x (ls.map Ct.rd) r.rd f2 f5 f6 f9 f11 f12 f14 s31 s34 s35 s38 s40 s41 s8 w) ?hstep ?hend _ _ _ _ (by decide) ⟨false, false, false, false, false, false, false, false, false, undef, undef, undef, undef, undef, undef, undef, undef, rfl, rfl, by simp, by simp, bl_drew (Below.refl _ _), ⟨by simp, by simp, by simp, by simp, by simp, by simp, by simp⟩⟩
    case hstep =>
      rintro i l a w' hi ⟨f2, f5, f6, f9, f11, f12, f13, f14, f15, s31, s34, s35, s38, s40, s41, s42, s8, rfl, rfl, h12, h13, hB, hG⟩
      obtain ⟨hu, o_, ho, -⟩ := mem_ready.1 hi
      have hi16 : i < 16 := (Array.getElem?_eq_some_iff.1 ho).1
      have hcases : i = 0 ∨ i = 1 ∨ i = 2 ∨ i = 3 ∨ i = 4 ∨ i = 5 ∨ i = 6 ∨ i = 7 ∨ i = 8 ∨ i = 9 ∨ i = 10 ∨ i = 11 ∨ i = 12 ∨ i = 13 ∨ i = 14 ∨ i = 15 := by omega
      clear hi16 ho
      rcases hcases with rfl | rfl | rfl | rfl | rfl | rfl | rfl | rfl | rfl | rfl | rfl | rfl | rfl | rfl | rfl | rfl
      · cases hu
      · cases hu
      · obtain rfl : f2 = false := hu
        refine ⟨_, rfl, fun K hK => ?_⟩
        go_simp
        have hb := bl_alloc (Below.refl w'.heap.size w') (.cells #[] 26)
        have hG' := hG.below hb
        refine hK.out _ _ (HSM.out _ (bl_alloc hB _)) ⟨true, f5, f6, f9, f11, f12, f13, f14, f15, _, s34, s35, s38, s40, s41, s42, s8, rfl, rfl, h12, h13, bl_alloc hB _, ⟨fun _ _ => ⟨_, rfl, Bk.new hB.size⟩, hG'.h34, hG'.h35, hG'.h38, hG'.h40, hG'.h41, hG'.h8⟩⟩
      · cases hu
      · cases hu
      · obtain rfl : f5 = false := hu
        obtain rfl : f2 = true := by cases f2 with | true => rfl | false => exact (nomatch (show false = true from ready_deps hi rfl))
        obtain ⟨p, rfl, hp⟩ := hG.h31 rfl rfl
        have hO := own_empty (size := 2) hp.2 hp.1
        refine ⟨_, rfl, fun K hK => ?_⟩
        refine step_append_row (en := Rg.cs) rfl _ _ 34 rfl V.heap.size 26 i1 _ 2 16 rfl hj hy0 hy1 hy2 rfl (by decide) (.slice (some ⟨p, 0, none⟩) 0 0) 0 [] rfl hO (fun _ => rfl) (some ⟨b, o, none⟩) [x] (by intro y hy u hu; simp [Rg.cs] at hu; (rcases hu with h | h) <;> subst h <;> rfl) c1 rfl (HRV.out.below hB) (by unfold maxLen; simp) (by simp) hB.size ?_
        intro v' w2 hown hgrow hat
        have hB2 := bl_grown hB hB.size hgrow (fun k hk => by cases hk; exact hp.1)
        refine hK.out _ _ (HSM.out _ hB2) ⟨true, true, f6, f9, f11, f12, f13, f14, f15, _, v', s35, s38, s40, s41, s42, s8, rfl, rfl, h12, fun h => (by have := (h13 h).1; cases this), hB2, ⟨(fun _ h => by cases h), (fun _ => by simpa using hown), fun a b => ex_mono (hG.h35 a b) fun q hq => ⟨hq.1, hq.2.grown hgrow (blk_ne_own hq.2.2 hO (by decide))⟩, fun a b => (hG.h38 a b).kept hgrow (own_ne_type (hG.h38 a b) hO (by decide)), fun a b => ex_mono (hG.h40 a b) fun q hq => ⟨hq.1, hq.2.grown hgrow (blk_ne_own hq.2.2 hO (by decide))⟩, fun a => (hG.h41 a).kept hgrow (own_ne_type (hG.h41 a) hO (by decide)), fun a => ex_mono (hG.h8 a) fun q hq => ⟨hq.1, hq.2.grown hgrow (blk_ne_own hq.2.2 hO (by decide))⟩⟩⟩
      · obtain rfl : f6 = false := hu
        refine ⟨_, rfl, fun K hK => ?_⟩
        go_simp
        have hb := bl_alloc (Below.refl w'.heap.size w') (.cells #[] 53)
        have hG' := hG.below hb
        refine hK.out _ _ (HSM.out _ (bl_alloc hB _)) ⟨f2, f5, true, f9, f11, f12, f13, f14, f15, s31, s34, _, s38, s40, s41, s42, s8, rfl, rfl, h12, h13, bl_alloc hB _, ⟨hG'.h31, hG'.h34, fun _ _ => ⟨_, rfl, Bk.new hB.size⟩, hG'.h38, hG'.h40, hG'.h41, hG'.h8⟩⟩
      · cases hu
      · cases hu
      · obtain rfl : f9 = false := hu
        obtain rfl : f6 = true := by cases f6 with | true => rfl | false => exact (by have h := ready_deps hi rfl; cases f5 <;> exact nomatch (show false = true from h))
        obtain rfl : f12 = false := by cases f12 with | false => rfl | true => exact nomatch (h12 rfl)
        obtain ⟨p, rfl, hp⟩ := hG.h35 rfl rfl
        have hO := own_empty (size := 6) hp.2 hp.1
        refine ⟨_, rfl, fun K hK => ?_⟩
        have hlm : (ls.map Ct.rd).length = ls.length := List.length_map _
        refine step_append_row (en := Rd.cs) rfl _ _ 39 rfl V.heap.size 53 i0 _ 6 48 rfl hI0 hz0 hz1 hz2 rfl (by decide) (.slice (some ⟨p, 0, none⟩) 0 0) 0 [] rfl hO (fun _ => rfl) A2 (ls.map Ct.rd) (by intro y hy u hu; simp [Rd.cs] at hu; (rcases hu with h | h | h | h | h | h) <;> subst h <;> rfl) c2 (by rw [hlm]; rfl) (HR2V.out.below hB) (by unfold maxLen; omega) (by omega) hB.size ?_
        intro v' w2 hown hgrow hat
        have hB2 := bl_grown hB hB.size hgrow (fun k hk => by cases hk; exact hp.1)
        refine hK.out _ _ (HSM.out _ hB2) ⟨f2, f5, true, true, f11, false, f13, f14, f15, s31, s34, _, v', s40, s41, s42, s8, rfl, rfl, fun _ => rfl, h13, hB2, ⟨fun a b => ex_mono (hG.h31 a b) fun q hq => ⟨hq.1, hq.2.grown hgrow (blk_ne_own hq.2.2 hO (by decide))⟩, fun a => (hG.h34 a).kept hgrow (own_ne_type (hG.h34 a) hO (by decide)), (fun _ h => by cases h), (fun _ _ => by simpa using hown), fun a b => ex_mono (hG.h40 a b) fun q hq => ⟨hq.1, hq.2.grown hgrow (fun e => by
          have e2 : q = p := by simpa [Value.ownBlock] using e
          have e3 := hq.2.2; rw [e2] at e3; have e4 := hp.2.symm.trans e3; simp [Rd.cs] at e4)⟩, (fun h => by cases h), fun a => ex_mono (hG.h8 a) fun q hq => ⟨hq.1, hq.2.grown hgrow (blk_ne_own hq.2.2 hO (by decide))⟩⟩⟩
      · cases hu
      · obtain rfl : f11 = false := hu
        refine ⟨_, rfl, fun K hK => ?_⟩
        go_simp
        have hb := bl_alloc (Below.refl w'.heap.size w') (.cells (Rd.cs r.rd).toArray 53)
        have hG' := hG.below hb
        refine hK.out _ _ (HSM.out _ (bl_alloc hB _)) ⟨f2, f5, f6, f9, true, f12, f13, f14, f15, s31, s34, s35, s38, _, s41, s42, s8, rfl, rfl, h12, h13, bl_alloc hB _, ⟨hG'.h31, hG'.h34, hG'.h35, hG'.h38, fun _ _ => ⟨_, rfl, Bk.new hB.size⟩, hG'.h41, hG'.h8⟩⟩
      · obtain rfl : f12 = false := hu
        obtain rfl : f9 = true := by cases f9 with | true => rfl | false => exact nomatch (show false = true from ready_deps hi rfl)
        obtain rfl : f11 = true := by cases f11 with | true => rfl | false => exact nomatch (show false = true from ready_deps hi rfl)
        have hO := hG.h38 rfl rfl
        obtain ⟨p, rfl, hp⟩ := hG.h40 rfl rfl
        refine ⟨_, rfl, fun K hK => ?_⟩
        refine step_append_lies _ rfl _ _ 39 rfl V.heap.size 53 i0 _ 6 48 rfl hI0 hz0 hz1 hz2 rfl (by decide) s38 (ls.map Ct.rd).length (flat Rd.cs (ls.map Ct.rd)) rfl hO ⟨p, 0, none⟩ 1 1 (Rd.cs r.rd) rfl rfl (World.news_of_block (t := 53) (fr := (0, 0)) hp.2) (by simp [Rd.cs, Value.oneCell']) (by omega) (by unfold maxLen; rw [List.length_map]; omega) (by rw [List.length_map]; omega) hB.size _ rfl ?_
        intro g cap w2 hown hgrow hat hgl
        have hB2 := bl_grown hB hB.size hgrow (fun k hk => (hO.lt k hk).1)
        refine hK.out _ _ (HSM.out _ hB2) ⟨f2, f5, f6, true, true, true, f13, f14, f15, s31, s34, s35, s38, _, _, s42, s8, rfl, rfl, fun _ => rfl, fun h => (by have := (h13 h).2.1; cases this), hB2, ⟨fun a b => ex_mono (hG.h31 a b) fun q hq => ⟨hq.1, hq.2.grown hgrow (blk_ne_own hq.2.2 hO (by decide))⟩, fun a => (hG.h34 a).kept hgrow (own_ne_type (hG.h34 a) hO (by decide)), (fun _ h => by cases h), (fun _ h => by cases h), (fun _ h => by cases h), (fun _ => by rw [flat_snoc]; exact hown), fun a => ex_mono (hG.h8 a) fun q hq => ⟨hq.1, hq.2.grown hgrow (blk_ne_own hq.2.2 hO (by decide))⟩⟩⟩
      · obtain rfl : f13 = false := hu
        obtain rfl : f5 = true := by cases f5 with | true => rfl | false => exact nomatch (show false = true from ready_deps hi rfl)
        obtain rfl : f12 = true := by cases f12 with | true => rfl | false => exact nomatch (show false = true from ready_deps hi rfl)
        have k34 := hG.h34 rfl
        have k41 := hG.h41 rfl
        obtain ⟨g, c, rfl⟩ := row_slice k34 (by decide)
        obtain ⟨g', c', rfl⟩ := row_slice k41 (by omega)
        rw [List.length_map] at hG
        refine ⟨_, rfl, fun K hK => ?_⟩
        try rw [List.length_map]
        go_simp
        refine hK.out _ _ (HSM.out _ hB) ⟨f2, true, f6, f9, f11, true, true, f14, f15, s31, _, s35, s38, s40, _, _, s8, rfl, rfl, h12, fun _ => ⟨rfl, rfl, rfl⟩, hB, hG⟩
      · obtain rfl : f14 = false := hu
        refine ⟨_, rfl, fun K hK => ?_⟩
        go_simp
        have hb := bl_alloc (Below.refl w'.heap.size w') (.cells #[.int .i64 0, .slice none 0 0, .slice none 0 0] 41)
        have hG' := hG.below hb
        refine hK.out _ _ (HSM.out _ (bl_alloc hB _)) ⟨f2, f5, f6, f9, f11, f12, f13, true, f15, s31, s34, s35, s38, s40, s41, s42, _, rfl, rfl, h12, h13, bl_alloc hB _, ⟨hG'.h31, hG'.h34, hG'.h35, hG'.h38, hG'.h40, hG'.h41, fun _ => ⟨_, rfl, Bk.new hB.size⟩⟩⟩
      · obtain rfl : f15 = false := hu
        refine ⟨_, rfl, fun K hK => ?_⟩
        go_simp
        refine hK.out _ _ (HSM.out _ hB) ⟨f2, f5, f6, f9, f11, f12, f13, f14, true, s31, s34, s35, s38, s40, s41, s42, s8, rfl, rfl, h12, h13, hB, hG⟩
    case hend =>
      rintro l a w' hr ⟨f2, f5, f6, f9, f11, f12, f13, f14, f15, s31, s34, s35, s38, s40, s41, s42, s8, rfl, rfl, h12, h13, hB, hG⟩
      obtain rfl : f2 = true := ready_end (i := 2) hr rfl rfl
      obtain rfl : f6 = true := ready_end (i := 6) hr rfl rfl
      obtain rfl : f11 = true := ready_end (i := 11) hr rfl rfl
      obtain rfl : f14 = true := ready_end (i := 14) hr rfl rfl
      obtain rfl : f5 = true := ready_end (i := 5) hr rfl rfl
      obtain rfl : f9 = true := ready_end (i := 9) hr rfl rfl
      obtain rfl : f12 = true := ready_end (i := 12) hr rfl rfl
      obtain rfl : f13 = true := ready_end (i := 13) hr rfl rfl
      obtain ⟨-, -, rfl⟩ := h13 rfl
      obtain ⟨p, rfl, hp⟩ := hG.h8 rfl
      have h34 := hG.h34 rfl
      have h41 := hG.h41 rfl
      obtain ⟨g, c, rfl⟩ := row_slice h34 (by decide)
      obtain ⟨g', c', rfl⟩ := row_slice h41 (by omega)
      rw [List.length_map] at h41 ⊢
      clear hr h12 h13 hG HSM
      unfold Peeled
      dsimp only
      refine wp_store_blk 41 _ _ rfl p 0 [.int .i64 slack, .slice (some ⟨g, 0, none⟩) 1 c, .slice (some ⟨g', 0, none⟩) (ls.length + 1) c'] rfl rfl 41 _ #[.int .i64 slack, .slice (some ⟨g, 0, none⟩) 1 c, .slice (some ⟨g', 0, none⟩) (ls.length + 1) c'] hp.2 size41 (by simp) (by simp [Value.oneCell']) (by simp) (fun w7 hg7 hw7 => ?_)
      go_wp2_with fail
      go_meet
      refine ⟨p, g, c, _, rfl, ⟨hp.1, hg7⟩, ?_, ?_, hw7.below hB hp.1⟩
      · exact own_wroteB h34 hw7 hp.2 (by decide)
      · rw [List.map_append]
        exact own_wroteB h41 hw7 hp.2 (by decide)
  case rest =>
    obtain ⟨p, g, c, v2, rfl, hG1, hO1, hO2, hb⟩ := hcut
    obtain ⟨A, c9, rfl, hrow2, -⟩ := row_of_any (enc := Rd.cs) (fun _ => rfl) (l := (ls ++ [r]).map Ct.rd) (by simp) hO2
    have hrow1 := row_of_own (enc := Rg.cs) (fun _ => rfl) hO1
    have HG1 := Lib.hid hG1.2
    have HG3 := Lib.hid ((hb.block _ l3).trans ((HWW.out.block _ lg3).trans HHg3.out))
    have x1 := (Array.getElem?_eq_some_iff.1 HG1.out).1
    have x3 := (Array.getElem?_eq_some_iff.1 HG3.out).1
    have HBX := Lib.hid (bl_then (bl_then H0W.out HWW.out) hb)
    have HO1 := Lib.hid hO1
    have HO2 := Lib.hid hO2
    have HW1 := Lib.hid hrow1
    have HW2 := Lib.hid hrow2
    clear hG1 hO1 hO2 hb hrow1 hrow2
    have HB := Lib.hid (Below.refl wc.heap.size wc)
    cases hkl : keptC slack x (ls ++ [r]) with
    | nil =>
      simp only [hkl, List.length_nil] at HM
      have HK := Lib.hid hkl
      clear hkl
      go_wp2_with (first
        | ((with_reducible refine ld_gate 41 rfl ?_); refine wpList_load_row rfl 41 _ rfl p rfl 41 _ (0, 0) _ ((HB.out.block _ x1).trans HG1.out) Try.underlying41 rfl size41 ?_)
        | (go_at_call 54; refine (HM.out g c A c9 _ (HW1.out.below HB.out) (HW2.out.below HB.out)).mono ?_; rintro e_ w1 ⟨v, rfl, HL, hb_⟩; obtain ⟨n, c0, rfl, hn⟩ := OwnL.slice HL.out; have HB_ := Lib.hid (bl_then2 (by (repeat (with_reducible first | exact HB.out | apply bl_alloc2 | apply bl_drew2 | apply bl_drewN2))) hb_); clear HB hb_; (try clear hq); have HB := HB_; clear HB_; have hq := CB.of HB.out)
        | ((with_reducible refine st_gate 41 rfl ?_); refine wpList_store_row rfl 41 _ _ rfl g3 _ rfl rfl 41 _ ((HB.out.block _ x3).trans HG3.out) size41 (by simp) (by simp [Value.oneCell']) ?_))
      exact ret_row_tmp rfl g3 41 _ _ rfl (setRow_heap ((HB.out.block _ x3).trans HG3.out)) Try.underlying41 rfl size41 rfl ⟨⟨_, _, rfl, Lib.hid (.inl ⟨HK.out, rfl, rfl⟩)⟩, bl_setRow (bl_then HBX.out HB.out) bg3 _⟩
    | cons t kl =>
      simp only [hkl] at HM
      have HK := Lib.hid hkl
      clear hkl
      go_wp2_with (first
        | ((with_reducible refine ld_gate 41 rfl ?_); refine wpList_load_row rfl 41 _ rfl p rfl 41 _ (0, 0) _ ((HB.out.block _ x1).trans HG1.out) Try.underlying41 rfl size41 ?_)
        | (go_at_call 54; refine (HM.out g c A c9 _ (HW1.out.below HB.out) (HW2.out.below HB.out)).mono ?_; rintro e_ w1 ⟨v, rfl, HL, hb_⟩; obtain ⟨n, c0, rfl, hn⟩ := OwnL.slice HL.out; have HB_ := Lib.hid (bl_then2 (by (repeat (with_reducible first | exact HB.out | apply bl_alloc2 | apply bl_drew2 | apply bl_drewN2))) hb_); clear HB hb_; (try clear hq); have HB := HB_; clear HB_; have hq := CB.of HB.out)
        | ((with_reducible refine st_gate 41 rfl ?_); refine wpList_store_row rfl 41 _ _ rfl g3 _ rfl rfl 41 _ ((HB.out.block _ x3).trans HG3.out) size41 (by simp) (by simp [Value.oneCell']) ?_))
      have hwr := wrote_setRow w1 g3 #[.int .i64 slack, .slice (some ⟨g, 0, none⟩) 1 c, .slice A (ls.length + 1) c9]
      refine ret_row_tmp rfl g3 41 _ _ rfl (setRow_heap ((HB.out.block _ x3).trans HG3.out)) Try.underlying41 rfl size41 rfl ⟨⟨_, _, rfl, Lib.hid (.inr ⟨(by rw [HK.out]; simp), rfl, g, c, A, c9, by simp, ?_, ?_⟩)⟩, bl_setRow (bl_then HBX.out HB.out) bg3 _⟩
      · exact row_of_own (enc := Rg.cs) (fun _ => rfl) (own_wrote (own_below HO1.out HB.out) hwr l3)
      · obtain ⟨A', c', he', hrow', -⟩ := row_of_any (enc := Rd.cs) (fun _ => rfl) (l := (ls ++ [r]).map Ct.rd) (by simp) (own_wrote (own_below HO2.out HB.out) hwr l3)
        injection he' with e1 e2 e3
        subst e1; exact hrow'
end Go.Proofs.Ytnclljamcfoolaa
namespace Go.Proofs.Ytnclljamcfoolaa
open Go.RowKit
set_option linter.unusedVariables false
set_option linter.unusedSimpArgs false

theorem amongR1_calls (n lo hi : Int) (w : World) : Calls Try.prog 57 #[.int .i64 n, .int .i64 lo, .int .i64 hi] w fun e w' => e = .returned (.bool (inB n lo hi)) ∧ w = w' := by
  unfold inB
  go_enter Try.func57, Try.ntmps57
  go_wp2
  all_goals go_ret
  all_goals exact ⟨by simp [*] <;> omega, rfl⟩

set_option maxHeartbeats 1000000 in
theorem checkRangeR1_calls (x : Rg) (lo hi : Int) (w : World) :
    Calls Try.prog 55 #[.agg #[.int .i64 x.mn, .int .i64 x.mx], .int .i64 lo, .int .i64 hi] w fun e w' => e = .returned (.int .i64 (rgErr x lo hi)) ∧ Below w.heap.size w w' := by
  go_enter Try.func55, Try.ntmps55
  go_wp2_with (go_at_call 57; (with_reducible refine (amongR1_calls _ _ _ _).mono ?_); rintro e_ w1 ⟨rfl, rfl⟩)
  all_goals (go_ret; refine ⟨ret_int ?_, by (repeat (first | assumption | exact Below.refl _ _ | refine bl_alloc ?_ _ | refine bl_drew ?_ | refine bl_drewN ?_ _))⟩; go_tidy; unfold rgErr; simp_all)

set_option maxHeartbeats 1000000 in
theorem checkAllR1_calls (xs : List Rg) (lo hi : Int) (A : Option Addr) (n c : Nat) (w : World) (h : Row Rg.cs 2 w A xs) (hn : xs.length = n) (hm : xs.length ≤ 1000000000000000) :
    Calls Try.prog 56 #[.slice A n c, .int .i64 lo, .int .i64 hi] w fun e w' => e = .returned (.int .i64 (allErr xs lo hi)) ∧ Below w.heap.size w w' := by
  subst hn
  go_enter Try.func56, Try.ntmps56
  go_wp2_with fail
  have HR := Lib.hid h
  clear h
  go_loopw [7] (fun i wr => ∃ k : Nat, k ≤ xs.length ∧ i = .int .i64 k ∧ Below w.heap.size w wr ∧ firstErr (fun x => rgErr x lo hi) xs = firstErr (fun x => rgErr x lo hi) (xs.drop k))
    (fun i _ => xs.length - (intOf i).toNat)
  case atStart => exact ⟨0, Nat.zero_le _, rfl, Below.refl _ _, rfl⟩
  case round =>
    obtain ⟨k, hk, rfl, hb, hf⟩ := hrel
    have HF := Lib.hid hf
    have HB := Lib.hid hb
    clear hf hb
    have hq := CB.of HB.out
    by_cases hlt : k < xs.length
    · obtain ⟨b, o, rfl, hlb, hc0, hc1⟩ := HR.out.rg k hlt
      have hlti : ((k : Int) < (xs.length : Int)) := by omega
      go_wp2_with (go_at_call 55; (with_reducible refine (checkRangeR1_calls (xs[k]) _ _ _).mono ?_); rintro e_ w1 ⟨rfl, hb_⟩; have HB_ := Lib.hid (bl_then2 (by (repeat (with_reducible first | exact HB.out | apply bl_alloc2 | apply bl_drew2 | apply bl_drewN2))) hb_); clear HB hb_; (try clear hq); have HB := HB_; clear HB_; have hq := CB.of HB.out)
      · go_ret
        exact ⟨ret_int (firstErr_is (hk := hlt) HF.out rfl (by simpa using (show (rgErr xs[k] lo hi != 0) = true by assumption))).symm, HB.out⟩
      · go_roundw
        case rel => exact ⟨k + 1, hlt, by go_num, HB.out, firstErr_next (hk := hlt) HF.out (by simpa using (show (rgErr xs[k] lo hi != 0) = false by assumption))⟩
        case measure => simp [intOf]; omega
    · go_wp2_with fail
      go_ret
      exact ⟨ret_int (firstErr_end HF.out (Nat.not_lt.1 hlt)).symm, HB.out⟩

theorem checkAllR1_two (x y : Rg) (lo hi : Int) (w : World) :
    Calls Try.prog 56 #[.slice (some ⟨w.heap.size, 0, none⟩) 2 2, .int .i64 lo, .int .i64 hi] (w.alloc (.cells #[.int .i64 x.mn, .int .i64 x.mx, .int .i64 y.mn, .int .i64 y.mx] 26)) fun e w' => e = .returned (.int .i64 (allErr [x, y] lo hi)) ∧ Below (w.alloc (.cells #[.int .i64 x.mn, .int .i64 x.mx, .int .i64 y.mn, .int .i64 y.mx] 26)).heap.size (w.alloc (.cells #[.int .i64 x.mn, .int .i64 x.mx, .int .i64 y.mn, .int .i64 y.mx] 26)) w' :=
  checkAllR1_calls [x, y] lo hi _ _ _ _ (row_new2 w x y) rfl (by simp)
theorem checkAllR1_four (x y z u : Rg) (lo hi : Int) (w : World) :
    Calls Try.prog 56 #[.slice (some ⟨w.heap.size, 0, none⟩) 4 4, .int .i64 lo, .int .i64 hi] (w.alloc (.cells #[.int .i64 x.mn, .int .i64 x.mx, .int .i64 y.mn, .int .i64 y.mx, .int .i64 z.mn, .int .i64 z.mx, .int .i64 u.mn, .int .i64 u.mx] 26)) fun e w' => e = .returned (.int .i64 (allErr [x, y, z, u] lo hi)) ∧ Below (w.alloc (.cells #[.int .i64 x.mn, .int .i64 x.mx, .int .i64 y.mn, .int .i64 y.mx, .int .i64 z.mn, .int .i64 z.mx, .int .i64 u.mn, .int .i64 u.mx] 26)).heap.size (w.alloc (.cells #[.int .i64 x.mn, .int .i64 x.mx, .int .i64 y.mn, .int .i64 y.mx, .int .i64 z.mn, .int .i64 z.mx, .int .i64 u.mn, .int .i64 u.mx] 26)) w' :=
  checkAllR1_calls [x, y, z, u] lo hi _ _ _ _ (row_new4 w x y z u) rfl (by simp)

set_option maxRecDepth 100000 in
set_option maxHeartbeats 1000000 in
theorem ref1Check_calls (j : Job) (A : Option Addr) (c : Nat) (w : World) (h : Row Rg.cs 2 w A j.shifts) (hm : j.shifts.length ≤ 1000000000000000) :
    Calls Try.prog 17 #[j.v A c] w fun e w' => e = .returned (.int .i64 (jobErr j)) ∧ Below w.heap.size w w' := by
  go_enter Try.func17, Try.ntmps17
  go_upto_region 1 with (fail)
  generalize hW : w.alloc _ = W
  generalize h1_ : w.heap.size = g1
  obtain ⟨hB0_, Hg1, kg1, fg1, lg1, bg1⟩ := gen1 w _ _ hW h1_
  clear hW h1_
  have H0W := Lib.hid hB0_
  clear hB0_
  have HHg1 := Lib.hid Hg1
  clear Hg1
  have HB := Lib.hid (Below.refl W.heap.size W)
  have HR := Lib.hid (h.below H0W.out)
  clear h
  go_wp2_with (first
    | (go_at_call 55; (with_reducible refine (checkRangeR1_calls j.t.pitch _ _ _).mono ?_); rintro e_ w1 ⟨rfl, hb_⟩; have HB_ := Lib.hid (bl_then2 (by (repeat (with_reducible first | exact HB.out | apply bl_alloc2 | apply bl_drew2 | apply bl_drewN2))) hb_); clear HB hb_; (try clear hq); have HB := HB_; clear HB_; have hq := CB.of HB.out)
    | (go_at_call 56; (with_reducible refine (checkAllR1_two j.t.tip j.t.root _ _ _).mono ?_); rintro e_ w1 ⟨rfl, hb_⟩; have HB_ := Lib.hid (bl_then2 (by (repeat (with_reducible first | exact HB.out | apply bl_alloc2 | apply bl_drew2 | apply bl_drewN2))) hb_); clear HB hb_; (try clear hq); have HB := HB_; clear HB_; have hq := CB.of HB.out)
    | (go_at_call 56; (with_reducible refine (checkAllR1_four j.f.up j.f.down j.f.tipw j.f.rootw _ _ _).mono ?_); rintro e_ w1 ⟨rfl, hb_⟩; have HB_ := Lib.hid (bl_then2 (by (repeat (with_reducible first | exact HB.out | apply bl_alloc2 | apply bl_drew2 | apply bl_drewN2))) hb_); clear HB hb_; (try clear hq); have HB := HB_; clear HB_; have hq := CB.of HB.out)
    | (go_at_call 56; (with_reducible refine (checkAllR1_calls j.shifts _ _ _ _ _ _ (HR.out.below HB.out) rfl hm).mono ?_); rintro e_ w1 ⟨rfl, hb_⟩; have HB_ := Lib.hid (bl_then2 (by (repeat (with_reducible first | exact HB.out | apply bl_alloc2 | apply bl_drew2 | apply bl_drewN2))) hb_); clear HB hb_; (try clear hq); have HB := HB_; clear HB_; have hq := CB.of HB.out)
    | (go_at_call 57; (with_reducible refine (amongR1_calls _ _ _ _).mono ?_); rintro e_ w1 ⟨rfl, rfl⟩))
  all_goals (go_ret; refine ⟨ret_int ?_, by (repeat (first | exact bl_then H0W.out HB.out | exact H0W.out | exact HB.out | exact Below.refl _ _ | refine bl_set ?_ (by assumption) _ | refine bl_alloc ?_ _ | refine bl_drew ?_ | refine bl_drewN ?_ _))⟩; go_tidy; unfold jobErr orE; simp_all; try omega)

end Go.Proofs.Ytnclljamcfoolaa
