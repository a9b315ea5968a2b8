/- Walk of meter.Tones for an ear of one tone with counts. What a tuner at work can be sure of: the game of package reed, and that who knows more is no worse off. Walks of package reed: sums of ranges, what ranges have in common, how thin a tongue is. Walks of package reed: the checks of a job. Walk of reed.windows: the pitches that surely pass, and those that may pass. -/
import Derived.Test.YtnclljamcfoolaaHd4
import Derived.Test.YtnclljamcfoolaaHd5
import Derived.Test.YtnclljamcfoolaaHd1
import Derived.Test.YtnclljamcfoolaaHd3
import Derived.Deep.AppendLies
namespace Go.Proofs.Ytnclljamcfoolaa
open Go.RowKit Go.Shelf Go.Maps
set_option linter.unusedVariables false
set_option linter.unusedSimpArgs false

theorem info26t : (Try.prog.info? 26).map (fun i => (i.zero, i.size, i.bytes)) = some (some (.agg #[.int .i64 0, .int .i64 0]), 2, 16) := by kernel_rfl
/-- the least and the greatest tone of some truths -/
def rngOf (l : List T3) (t : T3) : Rg := ⟨mnOf tnOf l (tnOf t), mxOf tnOf l (tnOf t)⟩

set_option maxRecDepth 100000 in
set_option maxHeartbeats 4000000 in
theorem tonesR_nil (slack : Int) (x : Rg) (ls : List Ct) (hls : ∀ r ∈ ls, r.Ok) (hl6 : ls.length ≤ 6) (he : earErr (earC slack x ls) = 0) (b o c1 : Nat) (A2 : Option Addr) (c2 : Nat) (w : World) (h1 : Row Rg.cs 2 w (some ⟨b, o, none⟩) [x]) (h2 : Row Rd.cs 6 w A2 (ls.map Ct.rd)) (hn : keptC slack x ls = []) :
    Calls Try.prog 25 #[.agg #[.int .i64 slack, .slice (some ⟨b, o, none⟩) 1 c1, .slice A2 ls.length c2]] w fun ed w' => ed = .returned (.tuple #[.slice none 0 0, .int .i64 9]) ∧ Below w.heap.size w w' := by
  have hK := knownR_calls slack x ls hls hl6 he b o c1 A2 c2
  simp only [hn, true_and, ne_eq, not_true_eq_false, false_and, or_false] at hK
  have HK := Lib.hid hK
  have HR0 := Lib.hid h1
  have HR20 := Lib.hid h2
  clear h1 h2 hK hn
  go_enter Try.func25, Try.ntmps25
  go_upto_region 1 with (fail)
  generalize hW : w.alloc _ = W
  generalize h1_ : w.heap.size = g1
  obtain ⟨hB0_, Hg1, kg1, fg1, lg1, bg1⟩ := gen1 w _ _ hW h1_
  clear hW h1_
  have H0W := Lib.hid hB0_
  clear hB0_
  have HHg1 := Lib.hid Hg1
  clear Hg1
  have HB := Lib.hid (Below.refl W.heap.size W)
  have HR := Lib.hid (HR0.out.below H0W.out)
  have HR2 := Lib.hid (HR20.out.below H0W.out)
  go_wp2_with (first
    | ((with_reducible refine ld_gate 41 rfl ?_); refine wpList_load_row rfl 41 _ rfl g1 rfl 41 _ (0, 0) _ ((HB.out.block _ lg1).trans HHg1.out) Try.underlying41 rfl size41 ?_)
    | (go_at_call 71; refine (HK.out _ (HR.out.below HB.out) (HR2.out.below HB.out)).mono ?_; rintro e_ w1 ⟨rfl, hb_⟩; have HB_ := Lib.hid (bl_then2 (by (repeat (with_reducible first | exact HB.out | apply bl_alloc2 | apply bl_drew2 | apply bl_drewN2))) hb_); clear HB hb_; (try clear hq); have HB := HB_; clear HB_; have hq := CB.of HB.out))
  go_ret2
  exact ⟨rfl, by (repeat (first | exact bl_then H0W.out HB.out | exact H0W.out | exact HB.out | exact Below.refl _ _ | refine bl_set ?_ (by assumption) _ | refine bl_alloc ?_ _ | refine bl_drew ?_ | refine bl_drewN ?_ _))⟩

set_option maxRecDepth 100000 in
set_option maxHeartbeats 4000000 in
theorem tonesR_cons (slack : Int) (x : Rg) (ls : List Ct) (hls : ∀ r ∈ ls, r.Ok) (hl6 : ls.length ≤ 6) (he : earErr (earC slack x ls) = 0) (b o c1 : Nat) (A2 : Option Addr) (c2 : Nat) (w : World) (h1 : Row Rg.cs 2 w (some ⟨b, o, none⟩) [x]) (h2 : Row Rd.cs 6 w A2 (ls.map Ct.rd)) (t : T3) (kl : List T3) (hn : keptC slack x ls = t :: kl) :
    Calls Try.prog 25 #[.agg #[.int .i64 slack, .slice (some ⟨b, o, none⟩) 1 c1, .slice A2 ls.length c2]] w fun ed w' => ∃ g c, ed = .returned (.tuple #[.slice (some ⟨g, 0, none⟩) 1 c, .int .i64 0]) ∧ Hid (Row Rg.cs 2 w' (some ⟨g, 0, none⟩) [rngOf (t :: kl) t] ∧ w.heap.size ≤ g) ∧ Below w.heap.size w w' := by
  obtain ⟨i0, hi, hz0, hz1, hz2⟩ := info_parts info26t
  obtain ⟨hsl, hbx, -, hx20⟩ := earC_bd he
  have hkl := keptC_len (slack := slack) (ls := ls) hx20
  have hK := knownR_calls slack x ls hls hl6 he b o c1 A2 c2
  rw [hn] at hkl
  simp only [hn, reduceCtorEq, false_and, ne_eq, not_false_eq_true, true_and, false_or] at hK
  have hl0 : 0 < (t :: kl).length := by simp
  obtain ⟨L, hL⟩ : ∃ L, t :: kl = L := ⟨_, rfl⟩
  have ht : ∀ h : 0 < L.length, L[0] = t := fun h => by subst hL; rfl
  rw [hL] at hK hl0 hkl
  have HT := Lib.hid (ht hl0)
  have HLe := Lib.hid hL
  clear hL ht
  have HK := Lib.hid hK
  have HR0 := Lib.hid h1
  have HR20 := Lib.hid h2
  clear h1 h2 hK hn
  go_enter Try.func25, Try.ntmps25
  go_upto_region 1 with (fail)
  generalize hW : w.alloc _ = W
  generalize h1_ : w.heap.size = g1
  obtain ⟨hB0_, Hg1, kg1, fg1, lg1, bg1⟩ := gen1 w _ _ hW h1_
  clear hW h1_
  have H0W := Lib.hid hB0_
  clear hB0_
  have HHg1 := Lib.hid Hg1
  clear Hg1
  have HB := Lib.hid (Below.refl W.heap.size W)
  have HR := Lib.hid (HR0.out.below H0W.out)
  have HR2 := Lib.hid (HR20.out.below H0W.out)
  go_upto_region 5 with (first
    | ((with_reducible refine ld_gate 41 rfl ?_); refine wpList_load_row rfl 41 _ rfl g1 rfl 41 _ (0, 0) _ ((HB.out.block _ lg1).trans HHg1.out) Try.underlying41 rfl size41 ?_)
    | (go_at_call 71; refine (HK.out _ (HR.out.below HB.out) (HR2.out.below HB.out)).mono ?_; rintro e_ w1 ⟨v, rfl, hr, hb_⟩; obtain ⟨g0, cap, rfl⟩ := row_slice hr hl0; have HO := Lib.hid hr; have hsz := HB.out.size; have HB_ := Lib.hid (bl_then2 (by (repeat (with_reducible first | exact HB.out | apply bl_alloc2 | apply bl_drew2 | apply bl_drewN2))) hb_); clear HB hb_; (try clear hq); have HB := HB_; clear HB_; have hq := CB.of HB.out))
  clear hr
  have k1 := fun j => (hq.1 g1 j lg1).trans (kg1 j)
  have HWW := Lib.hid (bl_then H0W.out HB.out)
  have HRL := Lib.hid (row_of_own (enc := T3.cs) (fun _ => rfl) HO.out)
  clear kg1 fg1 HB hq
  go_wp2_with fail
  go_loopw [6, 19] (fun v i wr => (i = .int .i64 0 ∧ v = .slice none 0 0 ∧ Below w1.heap.size w1 wr) ∨ (i = .int .i64 1 ∧ ∃ g c, v = .slice (some ⟨g, 0, none⟩) 1 c ∧ Hid (Row Rg.cs 2 wr (some ⟨g, 0, none⟩) [rngOf L t] ∧ w1.heap.size ≤ g) ∧ Below w1.heap.size w1 wr)) (fun _ i _ => 1 - (intOf i).toNat)
  case atStart => exact .inl ⟨rfl, rfl, Below.refl _ _⟩
  case round =>
    rcases hrel with ⟨rfl, rfl, hb⟩ | ⟨rfl, g, c, rfl, HG, hb⟩
    · have HBr := Lib.hid hb
      clear hb
      go_upto_region 8 with (fail)
      generalize hW : wr.alloc _ = V
      generalize h1_ : wr.heap.size = x1
      obtain ⟨hB0_, Hx1, kx1, fx1, lx1, bx1⟩ := gen1 wr _ _ hW h1_
      clear hW h1_
      have H0V := Lib.hid hB0_
      clear hB0_
      have HHx1 := Lib.hid Hx1
      clear Hx1
      have HB := Lib.hid (Below.refl V.heap.size V)
      have HRV := Lib.hid ((HRL.out.below HBr.out).below H0V.out)
      have HSp := Lib.hid (span72 L g0 cap x1 (by omega) hl0)
      have hrng : rngOf L t = ⟨mnOf tnOf L (tnOf L[0]), mxOf tnOf L (tnOf L[0])⟩ := by unfold rngOf; rw [HT.out]
      have HRNG := Lib.hid hrng
      clear hrng
      generalize mnOf tnOf L (tnOf L[0]) = X at *
      generalize mxOf tnOf L (tnOf L[0]) = Y at *
      go_wp2_with (first
        | (go_at_call 44; refine (HSp.out _ (HRV.out.below (by (repeat (with_reducible first | exact HB.out | apply bl_alloc2 | apply bl_drew2 | apply bl_drewN2)))) (((CB.of (by (repeat (with_reducible first | exact HB.out | apply bl_alloc2 | apply bl_drew2 | apply bl_drewN2)))).1 _ 0 lx1).trans (kx1 0))).mono ?_; rintro e_ w2 ⟨rfl, hb_⟩; have HB_ := Lib.hid (bl_then2 (by (repeat (with_reducible first | exact HB.out | apply bl_alloc2 | apply bl_drew2 | apply bl_drewN2))) hb_); clear HB hb_; have HB := HB_; clear HB_)
        | (at_builtin; refine wpList_append_lies _ rfl _ _ 34 rfl V.heap.size 26 i0 _ 2 16 Try.underlying34 hi hz0 hz1 hz2 rfl (by decide) _ 0 [] rfl (own_nil _ _ _ _) ⟨w2.heap.size, 0, none⟩ 1 1 [Value.int .i64 X, .int .i64 Y] rfl rfl (World.news_of_block (cs := #[Value.int .i64 X, .int .i64 Y]) (t := 26) (fr := (0, 0)) (heap_alloc_new _ _)) ?a1 (by decide) ?a2 ?a3 ?a4 (w2.heap.size + 1) ?a5 ?_
           (case a1 => simp [Value.oneCell'])
           (case a2 => unfold maxLen; omega)
           (case a3 => omega)
           (case a4 => have := HB.out.size; simp; omega)
           (case a5 => simp)
           intro g cap9 w3 hown' hgrow hat hgl
           have HB3 := Lib.hid (bl_grown (bl_alloc HB.out _) (bl_alloc HB.out _).size hgrow (fun k hk => by cases hk))
           have hbase : V.heap.size ≤ g := (hown'.lt g rfl).1
           have HROW := Lib.hid (row_of_own (enc := Rg.cs) (l := [(⟨X, Y⟩ : Rg)]) (fun _ => rfl) (by simpa [flat, Rg.cs] using hown'))
           clear hown' hgrow hat))
      rw [HRNG.out]
      refine ⟨.inr ⟨rfl, g, cap9, rfl, Lib.hid ⟨HROW.out, ?_⟩, bl_then HBr.out (bl_then H0V.out HB3.out)⟩, ?_⟩
      · have := H0V.out.size; have := HBr.out.size; omega
      · simp [intOf]
    · go_wp2_with fail
      go_ret2
      have hLe := HLe.out
      subst hLe
      exact ⟨g, c, rfl, Lib.hid ⟨HG.out.1, by have := HWW.out.size; have := HG.out.2; omega⟩, bl_then HWW.out hb⟩
end Go.Proofs.Ytnclljamcfoolaa
namespace Go.Proofs.Ytnclljamcfoolaa
open Go.RowKit
set_option linter.unusedVariables false
set_option linter.unusedSimpArgs false

def hasR (x y : Rg) : Bool := decide (x.mn ≤ y.mn) && decide (y.mx ≤ x.mx)
def meetR (x y : Rg) : Rg := ⟨max x.mn y.mn, min x.mx y.mx⟩
def meetL (x : Rg) (l : List Rg) : Rg := l.foldl meetR x
def plusR (x y : Rg) : Rg := ⟨x.mn + y.mn, x.mx + y.mx⟩
def lessR (x y : Rg) : Rg := ⟨x.mn - y.mx, x.mx - y.mn⟩
def lessN (x y : Rg) (n : Nat) : Rg := ⟨x.mn - n * y.mx, x.mx - n * y.mn⟩
/-- the verdict on how thin a tongue is -/
def spoilR (tip root : Rg) (least : Int) : Int :=
  if tip.mx < least ∨ root.mx < least then 1 else if least ≤ tip.mn ∧ least ≤ root.mn then 2 else 3
/-- the pitches that surely pass, and those that may pass -/
def surelyR (j : Job) : Rg := match j.shifts with
  | [] => ⟨-j.within, j.within⟩
  | s :: l => meetL ⟨-j.within - s.mn, j.within - s.mx⟩ (l.map fun s => ⟨-j.within - s.mn, j.within - s.mx⟩)
def maybeR (j : Job) : Rg := match j.shifts with
  | [] => ⟨-j.within, j.within⟩
  | s :: l => meetL ⟨-j.within - s.mx, j.within - s.mn⟩ (l.map fun s => ⟨-j.within - s.mx, j.within - s.mn⟩)
def passR (j : Job) (p : Rg) : Int :=
  if hasR (surelyR j) p then 1 else if (meetR (maybeR j) p).mx < (meetR (maybeR j) p).mn then 2 else 3

/-- what can be known of a pitch when a meter has been read -/
def heardAt (p : Rg) (m r : Int) : Rg := meetR p ⟨r - m, r + m⟩
def heardN (p : Rg) (m : Int) (n : Nat) : List Rg := (List.range n).map fun i : Nat => heardAt p m (p.mn - m + (i : Int))
def heard (p : Rg) (m : Int) : List Rg := heardN p m (p.mx + m - (p.mn - m) + 1).toNat
/-- may a tongue be spoiled after so many strokes at the tip and at the root? -/
def soundR (j : Job) (tips roots : Nat) : Bool := decide (spoilR (lessN j.t.tip j.f.tipw tips) (lessN j.t.root j.f.rootw roots) j.f.least = 2)
/-- the first stroke with which the tuner can be sure to stop, given what stops -/
def strokeR (j : Job) (stops : Rg → Nat → Nat → Bool) (p : Rg) (tips roots : Nat) : Int :=
  if soundR j (tips + 1) roots && (heard (plusR p j.f.up) j.meter).all (fun x => stops x (tips + 1) roots) then 1
  else if soundR j tips (roots + 1) && (heard (lessR p j.f.down) j.meter).all (fun x => stops x tips (roots + 1)) then 2 else 0
def stopsR (j : Job) (w : Rg) : Nat → Rg → Nat → Nat → Bool
  | 0, p, _, _ => hasR w p
  | l + 1, p, t, r => hasR w p || decide (strokeR j (stopsR j w l) p t r ≠ 0)
def readsR (j : Job) (w : Rg) (l : Nat) (p : Rg) (t r : Nat) : Bool := (heard p j.meter).all fun x => stopsR j w l x t r
/-- the fewest strokes, from n on, at most 4 -/
def fewestR (is : Nat → Bool) : Nat → Nat → Option Nat
  | 0, _ => none
  | k + 1, n => if is n then some n else fewestR is k (n + 1)
def guidedR (j : Job) : Option Nat := fewestR (fun n => readsR j (surelyR j) n j.t.pitch 0 0) 5 0

/-! ### who knows more is no worse off -/
def inR (x y : Rg) : Prop := x.mn ≤ y.mn ∧ y.mx ≤ x.mx
theorem hasR_in {w x y : Rg} (h : hasR w x = true) (hi : inR x y) : hasR w y = true := by
  simp only [hasR, Bool.and_eq_true, decide_eq_true_eq] at h ⊢
  unfold inR at hi; omega
theorem mem_heard (p : Rg) (m : Int) (x : Rg) : x ∈ heard p m ↔ ∃ r, p.mn - m ≤ r ∧ r ≤ p.mx + m ∧ x = heardAt p m r := by
  unfold heard heardN
  simp only [List.mem_map, List.mem_range]
  constructor
  · rintro ⟨i, hi, rfl⟩; exact ⟨_, by omega, by omega, rfl⟩
  · rintro ⟨r, h1, h2, rfl⟩; exact ⟨(r - (p.mn - m)).toNat, by omega, by congr 1; omega⟩
theorem heard_in {p q : Rg} {m : Int} (h : inR p q) {f g : Rg → Bool} (hfg : ∀ x y, inR x y → f x = true → g y = true) (ha : (heard p m).all f = true) : (heard q m).all g = true := by
  rw [List.all_eq_true] at ha ⊢
  intro y hy
  obtain ⟨r, h1, h2, rfl⟩ := (mem_heard q m y).1 hy
  unfold inR at h
  refine hfg (heardAt p m r) _ ?_ (ha _ ((mem_heard p m _).2 ⟨r, by omega, by omega, rfl⟩))
  unfold inR heardAt meetR
  simp only
  omega
theorem strokeR_in {j : Job} {s s' : Rg → Nat → Nat → Bool} (hs : ∀ x y t r, inR x y → s x t r = true → s' y t r = true) {p q : Rg} (h : inR p q) (t r : Nat) (hp : strokeR j s p t r ≠ 0) : strokeR j s' q t r ≠ 0 := by
  have h1 : inR (plusR p j.f.up) (plusR q j.f.up) := by unfold inR plusR at *; simp only; omega
  have h2 : inR (lessR p j.f.down) (lessR q j.f.down) := by unfold inR lessR at *; simp only; omega
  unfold strokeR at hp ⊢
  split at hp
  · next c =>
    rw [Bool.and_eq_true] at c
    rw [if_pos (by rw [Bool.and_eq_true]; exact ⟨c.1, heard_in h1 (fun x y => hs x y _ _) c.2⟩)]
    decide
  · split at hp
    · next c =>
      rw [Bool.and_eq_true] at c
      split
      · decide
      · rw [if_pos (by rw [Bool.and_eq_true]; exact ⟨c.1, heard_in h2 (fun x y => hs x y _ _) c.2⟩)]
        decide
    · exact absurd rfl hp
theorem stopsR_in (j : Job) (w : Rg) : ∀ (l : Nat) (p q : Rg) (t r : Nat), inR p q → stopsR j w l p t r = true → stopsR j w l q t r = true
  | 0, p, q, t, r, h, hp => hasR_in hp h
  | l + 1, p, q, t, r, h, hp => by
    unfold stopsR at hp ⊢
    rw [Bool.or_eq_true, decide_eq_true_eq] at hp ⊢
    rcases hp with hp | hp
    · exact .inl (hasR_in hp h)
    · exact .inr (strokeR_in (fun x y t r hxy hx => stopsR_in j w l x y t r hxy hx) h t r hp)
theorem readsR_in (j : Job) (w : Rg) (l : Nat) {p q : Rg} (h : inR p q) (t r : Nat) (hp : readsR j w l p t r = true) : readsR j w l q t r = true :=
  heard_in h (fun x y hxy hx => stopsR_in j w l x y t r hxy hx) hp
theorem fewestR_in {f g : Nat → Bool} (h : ∀ n, f n = true → g n = true) : ∀ k n a, fewestR f k n = some a → ∃ b, fewestR g k n = some b ∧ b ≤ a
  | 0, _, _, h0 => by cases h0
  | k + 1, n, a, h0 => by
    unfold fewestR at h0 ⊢
    split at h0
    · next c => cases h0; exact ⟨n, by rw [if_pos (h _ c)], Nat.le_refl _⟩
    · split
      · have : ∀ k n a, fewestR f k n = some a → n ≤ a := by
          intro k
          induction k with
          | zero => intro n a h; cases h
          | succ k ih =>
            intro n a h
            unfold fewestR at h
            split at h
            · cases h; exact Nat.le_refl _
            · have := ih _ _ h; omega
        exact ⟨n, rfl, by have := this _ _ _ h0; omega⟩
      · exact fewestR_in h k (n + 1) a h0

/-- a job whose pitch is known better needs no more strokes -/
theorem guided_in {a b : Job} (ht : a.t.tip = b.t.tip) (hr : a.t.root = b.t.root) (hf : a.f = b.f) (hs : a.shifts = b.shifts) (hw : a.within = b.within) (hm : a.meter = b.meter) (h : inR a.t.pitch b.t.pitch) (n : Nat) (hn : guidedR a = some n) : ∃ m, guidedR b = some m ∧ m ≤ n := by
  have e1 : surelyR b = surelyR a := by unfold surelyR; rw [hs, hw]
  have e2 : ∀ (s : Rg → Nat → Nat → Bool) p t r, strokeR b s p t r = strokeR a s p t r := by
    intro s p t r
    unfold strokeR soundR
    rw [ht, hr, hf, hm]
  have e3 : ∀ w l p t r, stopsR b w l p t r = stopsR a w l p t r := by
    intro w l
    induction l with
    | zero => intro p t r; rfl
    | succ l ih =>
      intro p t r
      have : stopsR b w l = stopsR a w l := by funext x y z; exact ih x y z
      unfold stopsR
      rw [e2, this]
  unfold guidedR at hn ⊢
  refine fewestR_in (fun k hk => ?_) _ _ _ hn
  rw [e1]
  have := readsR_in a (surelyR a) k h 0 0 hk
  unfold readsR at this ⊢
  rw [← hm]
  simpa only [e3] using this

theorem meetL_in (l : List Rg) : ∀ {x y : Rg} {l' : List Rg}, inR x y → l.length = l'.length → (∀ i (h : i < l.length) (h' : i < l'.length), inR l[i] l'[i]) → inR (meetL x l) (meetL y l') := by
  induction l with
  | nil => intro x y l' h hl _; cases l' with
    | nil => exact h
    | cons _ _ => cases hl
  | cons a l ih =>
    intro x y l' h hl hi
    cases l' with
    | nil => cases hl
    | cons b l' =>
      have h0 := hi 0 (by simp) (by simp)
      simp only [List.getElem_cons_zero] at h0
      refine ih (x := meetR x a) (y := meetR y b) (l' := l') ?_ (by simpa using hl) (fun i h1 h2 => by have := hi (i + 1) (by simpa using h1) (by simpa using h2); simpa using this)
      unfold inR meetR at *; simp only; omega
/-- what surely passes may pass -/
theorem surely_in (j : Job) (hs : ∀ s ∈ j.shifts, s.mn ≤ s.mx) : inR (maybeR j) (surelyR j) := by
  unfold maybeR surelyR
  cases hj : j.shifts with
  | nil => exact ⟨Int.le_refl _, Int.le_refl _⟩
  | cons s l =>
    rw [hj] at hs
    have h0 := hs s (by simp)
    refine meetL_in _ ⟨by simp only; omega, by simp only; omega⟩ (by simp) (fun i h1 h2 => ?_)
    have h3 := hs (l[i]'(by simpa using h1)) (by simp)
    simp only [List.getElem_map]
    exact ⟨by simp only; omega, by simp only; omega⟩
/-- a pitch that is known better has the same verdict, if that is no Either -/
theorem pass_in {a b : Job} (hs : a.shifts = b.shifts) (hw : a.within = b.within) (hsh : ∀ s ∈ a.shifts, s.mn ≤ s.mx) {p q : Rg} (h : inR p q) (hq : q.mn ≤ q.mx) (h3 : passR a p ≠ 3) : passR b q = passR a p := by
  have e1 : surelyR b = surelyR a := by unfold surelyR; rw [hs, hw]
  have e2 : maybeR b = maybeR a := by unfold maybeR; rw [hs, hw]
  have hsu := surely_in a hsh
  unfold passR at h3 ⊢
  rw [e1, e2]
  unfold inR at hsu h
  by_cases c1 : hasR (surelyR a) p = true
  · rw [if_pos c1, if_pos (hasR_in c1 h)]
  · rw [if_neg c1] at h3 ⊢
    by_cases c2 : (meetR (maybeR a) p).mx < (meetR (maybeR a) p).mn
    · rw [if_pos c2]
      have c3 : ¬ hasR (surelyR a) q = true := by
        simp only [hasR, Bool.and_eq_true, decide_eq_true_eq]
        unfold meetR at c2
        simp only at c2
        omega
      rw [if_neg c3, if_pos]
      unfold meetR at c2 ⊢
      simp only at c2 ⊢
      omega
    · rw [if_neg c2] at h3; exact absurd rfl h3
end Go.Proofs.Ytnclljamcfoolaa
namespace Go.Proofs.Ytnclljamcfoolaa
open Go.RowKit
set_option linter.unusedVariables false
set_option linter.unusedSimpArgs false

theorem size26g : (Try.prog.info? 26).map (·.size) = some 2 := by kernel_rfl
@[reducible] def Rg.v (x : Rg) : Value := .agg #[.int .i64 x.mn, .int .i64 x.mx]
/-- a range of numbers that are not too great -/
def Rg.Bd (B : Int) (x : Rg) : Prop := -B ≤ x.mn ∧ x.mn ≤ B ∧ -B ≤ x.mx ∧ x.mx ≤ B

theorem plusG_calls (x y : Rg) (w : World) (hx : x.Bd 1000000000) (hy : y.Bd 1000000000) :
    Calls Try.prog 112 #[x.v, y.v] w fun e w' => e = .returned (plusR x y).v ∧ Below w.heap.size w w' := by
  obtain ⟨a1, a2, a3, a4⟩ := hx
  obtain ⟨b1, b2, b3, b4⟩ := hy
  unfold plusR
  go_enter Try.func112, Try.ntmps112
  go_wp2
  exact bodyPost_ret (v := .agg #[.int .i64 (x.mn + y.mn), .int .i64 (x.mx + y.mx)]) (by simp [results, Try.results112, go_sem]) rfl ⟨rfl, by (repeat (first | assumption | exact Below.refl _ _ | refine bl_alloc ?_ _ | refine bl_drew ?_ | refine bl_drewN ?_ _))⟩
theorem lessG_calls (x y : Rg) (w : World) (hx : x.Bd 1000000000) (hy : y.Bd 1000000000) :
    Calls Try.prog 110 #[x.v, y.v] w fun e w' => e = .returned (lessR x y).v ∧ Below w.heap.size w w' := by
  obtain ⟨a1, a2, a3, a4⟩ := hx
  obtain ⟨b1, b2, b3, b4⟩ := hy
  unfold lessR
  go_enter Try.func110, Try.ntmps110
  go_wp2
  exact bodyPost_ret (v := .agg #[.int .i64 (x.mn - y.mx), .int .i64 (x.mx - y.mn)]) (by simp [results, Try.results110, go_sem]) rfl ⟨rfl, by (repeat (first | assumption | exact Below.refl _ _ | refine bl_alloc ?_ _ | refine bl_drew ?_ | refine bl_drewN ?_ _))⟩
theorem hasG_calls (x y : Rg) (w : World) :
    Calls Try.prog 89 #[x.v, y.v] w fun e w' => e = .returned (.bool (hasR x y)) ∧ Below w.heap.size w w' := by
  go_enter Try.func89, Try.ntmps89
  go_wp2
  all_goals (go_ret; refine ⟨ret_bool ?_, by (repeat (first | assumption | exact Below.refl _ _ | refine bl_alloc ?_ _ | refine bl_drew ?_ | refine bl_drewN ?_ _))⟩; go_tidy; unfold hasR; simp_all; try (intros; omega))
theorem wider_calls (x y : Rg) (w : World) :
    Calls Try.prog 16 #[x.v, y.v] w fun e w' => e = .returned (.bool (hasR x y)) ∧ Below w.heap.size w w' := by
  go_enter Try.func16, Try.ntmps16
  go_wp2
  all_goals (go_ret; refine ⟨ret_bool ?_, by (repeat (first | assumption | exact Below.refl _ _ | refine bl_alloc ?_ _ | refine bl_drew ?_ | refine bl_drewN ?_ _))⟩; go_tidy; unfold hasR; simp_all; try (intros; omega))

@[reducible] def steelV (t : Tng) (f : Fil) : Value := .agg #[.int .i64 t.pitch.mn, .int .i64 t.pitch.mx, .int .i64 t.tip.mn, .int .i64 t.tip.mx, .int .i64 t.root.mn, .int .i64 t.root.mx, .int .i64 f.up.mn, .int .i64 f.up.mx, .int .i64 f.down.mn, .int .i64 f.down.mx,
  .int .i64 f.tipw.mn, .int .i64 f.tipw.mx, .int .i64 f.rootw.mn, .int .i64 f.rootw.mx, .int .i64 f.least]
theorem spoiled_calls (t : Tng) (f : Fil) (w : World) :
    Calls Try.prog 111 #[steelV t f] w fun e w' => e = .returned (.int .i64 (spoilR t.tip t.root f.least)) ∧ Below w.heap.size w w' := by
  go_enter Try.func111, Try.ntmps111
  go_wp2
  all_goals (go_ret; refine ⟨ret_int ?_, by (repeat (first | assumption | exact Below.refl _ _ | refine bl_alloc ?_ _ | refine bl_drew ?_ | refine bl_drewN ?_ _))⟩; go_tidy; unfold spoilR; simp_all; try omega)

theorem two_set {wr : World} {g : Nat} {u v : Value} (x y : Value) (o : Obj) (hg : g < wr.heap.size) (h0 : wr.cell? ⟨g, 0, none⟩ = some u) (h1 : wr.cell? ⟨g, 1, none⟩ = some v) (f0 : wr.frozen? ⟨g, 0, none⟩ = false) (f1 : wr.frozen? ⟨g, 1, none⟩ = false) :
    (((wr.setCell ⟨g, 0, none⟩ x).setCell ⟨g, 1, none⟩ y).alloc o).cell? ⟨g, 0, none⟩ = some x ∧ (((wr.setCell ⟨g, 0, none⟩ x).setCell ⟨g, 1, none⟩ y).alloc o).cell? ⟨g, 1, none⟩ = some y ∧
    (((wr.setCell ⟨g, 0, none⟩ x).setCell ⟨g, 1, none⟩ y).alloc o).frozen? ⟨g, 0, none⟩ = false ∧ (((wr.setCell ⟨g, 0, none⟩ x).setCell ⟨g, 1, none⟩ y).alloc o).frozen? ⟨g, 1, none⟩ = false := by
  have hq := CB.of (bl_alloc (Below.refl ((wr.setCell ⟨g, 0, none⟩ x).setCell ⟨g, 1, none⟩ y).heap.size ((wr.setCell ⟨g, 0, none⟩ x).setCell ⟨g, 1, none⟩ y)) o)
  have hl : g < ((wr.setCell ⟨g, 0, none⟩ x).setCell ⟨g, 1, none⟩ y).heap.size := by simpa using hg
  refine ⟨(hq.1 _ _ hl).trans ?_, (hq.1 _ _ hl).trans ?_, (hq.2.1 _ _ hl).trans ?_, (hq.2.1 _ _ hl).trans ?_⟩ <;> simp [go_sem, h0, h1, f0, f1]
theorem meetL_snoc (x y : Rg) (l : List Rg) : meetL x (l ++ [y]) = meetR (meetL x l) y := by simp [meetL]

set_option maxRecDepth 100000 in
set_option maxHeartbeats 1000000 in
theorem meetG_calls (x : Rg) (l : List Rg) (A : Option Addr) (c : Nat) (w : World) (h : Row Rg.cs 2 w A l) (hl : l.length ≤ 1000000) :
    Calls Try.prog 88 #[x.v, .slice A l.length c] w fun e w' => e = .returned (meetL x l).v ∧ Below w.heap.size w w' := by
  have HR := Lib.hid h
  clear h
  go_enter Try.func88, Try.ntmps88
  go_upto_region 1 with (fail)
  generalize hW : (w.alloc _).alloc _ = W
  generalize h2_ : w.heap.size + 1 = g2
  generalize h1_ : w.heap.size = g1
  obtain ⟨hB0_, Hg1, Hg2, kg1, kg2, fg1, fg2, lg1, lg2, bg1, bg2, ng12, ng21⟩ := gen2 w _ _ _ _ hW h2_ h1_
  clear hW h1_ h2_
  have H0W := Lib.hid hB0_
  clear hB0_
  have HHg1 := Lib.hid Hg1
  have HHg2 := Lib.hid Hg2
  clear Hg1 Hg2
  go_upto_block 0 with (fail)
  go_wp2_with fail
  go_loopw [9] (fun i wr => ∃ k : Nat, k ≤ l.length ∧ i = .int .i64 k ∧ Hid (Below w.heap.size w wr ∧ wr.heap[g2]? = some (.cells #[.int .i64 0, .int .i64 0] 26 (0, 0))) ∧ g1 < wr.heap.size ∧ wr.cell? ⟨g1, 0, none⟩ = some (.int .i64 (meetL x (l.take k)).mn) ∧ wr.cell? ⟨g1, 1, none⟩ = some (.int .i64 (meetL x (l.take k)).mx) ∧ wr.frozen? ⟨g1, 0, none⟩ = false ∧ wr.frozen? ⟨g1, 1, none⟩ = false)
    (fun i _ => l.length - (intOf i).toNat)
  case atStart => exact ⟨0, Nat.zero_le _, rfl, Lib.hid ⟨H0W.out, HHg2.out⟩, lg1, kg1 0, kg1 1, fg1 0, fg1 1⟩
  case round =>
    obtain ⟨k, hk, rfl, HBB, l1, k0, k1, f0, f1⟩ := hrel
    by_cases hlt : k < l.length
    · have hlti : ((k : Int) < (l.length : Int)) := by omega
      obtain ⟨b, o, rfl, hlb, c0, c1⟩ := (HR.out.below HBB.out.1).rg k hlt
      have hs := Lib.hid (show meetL x (l.take (k + 1)) = meetR (meetL x (l.take k)) l[k] by
        rw [List.take_succ_eq_append_getElem hlt, meetL_snoc])
      generalize meetL x (l.take k) = y at *
      go_wp2_with fail
      have e0 : (if y.mn < l[k].mn then l[k].mn else y.mn) = max y.mn l[k].mn := by split <;> omega
      have e1 : (if l[k].mx < y.mx then l[k].mx else y.mx) = min y.mx l[k].mx := by split <;> omega
      rw [e0, e1]
      have l2 := (Array.getElem?_eq_some_iff.1 HBB.out.2).1
      have hne : g2 ≠ g1 := fun h => by rw [h] at ng21; exact ng21 ▸ rfl
      refine ⟨⟨k + 1, by omega, by simp, Lib.hid ⟨bl_alloc (bl_set (bl_set HBB.out.1 bg1 _) bg1 _) _, ?_⟩, by simp; omega, ?_, ?_, ?_, ?_⟩, ?_⟩
      · exact (Below.heap_alloc _ _ g2 (by simpa using l2)).trans (((wrote_setCell _ g1 1 _).block g2 hne).trans (((wrote_setCell _ g1 0 _).block g2 hne).trans HBB.out.2))
      · rw [hs.out]; exact (two_set _ _ _ l1 k0 k1 f0 f1).1
      · rw [hs.out]; exact (two_set _ _ _ l1 k0 k1 f0 f1).2.1
      · exact (two_set _ _ _ l1 k0 k1 f0 f1).2.2.1
      · exact (two_set _ _ _ l1 k0 k1 f0 f1).2.2.2
      · simp [intOf]; omega
    · have hkl : k = l.length := by omega
      subst hkl
      rw [List.take_length] at k0 k1
      go_wp2_with ((with_reducible refine st_gate 26 rfl ?_); refine wpList_store_row rfl 26 _ _ rfl g2 _ rfl rfl 26 _ HBB.out.2 size26g (by simp) (by simp [Value.oneCell']) ?_)
      exact ret_row rfl g2 26 _ _ rfl (setRow_heap HBB.out.2) Try.underlying26 rfl size26g rfl ⟨rfl, bl_setRow HBB.out.1 bg2 _⟩

end Go.Proofs.Ytnclljamcfoolaa
namespace Go.Proofs.Ytnclljamcfoolaa
open Go.RowKit
set_option linter.unusedVariables false
set_option linter.unusedSimpArgs false

theorem within1_calls (n lo hi : Int) (w : World) : Calls Try.prog 86 #[.int .i64 n, .int .i64 lo, .int .i64 hi] w fun e w' => e = .returned (.bool (inB n lo hi)) ∧ w = w' := by
  unfold inB
  go_enter Try.func86, Try.ntmps86
  go_wp2
  all_goals go_ret
  all_goals exact ⟨by simp [*] <;> omega, rfl⟩

set_option maxHeartbeats 1000000 in
theorem checkRange1_calls (x : Rg) (lo hi : Int) (w : World) :
    Calls Try.prog 84 #[.agg #[.int .i64 x.mn, .int .i64 x.mx], .int .i64 lo, .int .i64 hi] w fun e w' => e = .returned (.int .i64 (rgErr x lo hi)) ∧ Below w.heap.size w w' := by
  go_enter Try.func84, Try.ntmps84
  go_wp2_with (go_at_call 86; (with_reducible refine (within1_calls _ _ _ _).mono ?_); rintro e_ w1 ⟨rfl, rfl⟩)
  all_goals (go_ret; refine ⟨ret_int ?_, by (repeat (first | assumption | exact Below.refl _ _ | refine bl_alloc ?_ _ | refine bl_drew ?_ | refine bl_drewN ?_ _))⟩; go_tidy; unfold rgErr; simp_all)

set_option maxHeartbeats 1000000 in
theorem checkAll1_calls (xs : List Rg) (lo hi : Int) (A : Option Addr) (n c : Nat) (w : World) (h : Row Rg.cs 2 w A xs) (hn : xs.length = n) (hm : xs.length ≤ 1000000000000000) :
    Calls Try.prog 85 #[.int .i64 lo, .int .i64 hi, .slice A n c] w fun e w' => e = .returned (.int .i64 (allErr xs lo hi)) ∧ Below w.heap.size w w' := by
  subst hn
  go_enter Try.func85, Try.ntmps85
  go_wp2_with fail
  have HR := Lib.hid h
  clear h
  go_loopw [12] (fun i wr => ∃ k : Nat, k ≤ xs.length ∧ i = .int .i64 k ∧ Below w.heap.size w wr ∧ firstErr (fun x => rgErr x lo hi) xs = firstErr (fun x => rgErr x lo hi) (xs.drop k))
    (fun i _ => xs.length - (intOf i).toNat)
  case atStart => exact ⟨0, Nat.zero_le _, rfl, Below.refl _ _, rfl⟩
  case round =>
    obtain ⟨k, hk, rfl, hb, hf⟩ := hrel
    have HF := Lib.hid hf
    have HB := Lib.hid hb
    clear hf hb
    have hq := CB.of HB.out
    by_cases hlt : k < xs.length
    · obtain ⟨b, o, rfl, hlb, hc0, hc1⟩ := HR.out.rg k hlt
      have hlti : ((k : Int) < (xs.length : Int)) := by omega
      go_wp2_with (go_at_call 84; (with_reducible refine (checkRange1_calls (xs[k]) _ _ _).mono ?_); rintro e_ w1 ⟨rfl, hb_⟩; have HB_ := Lib.hid (bl_then2 (by (repeat (with_reducible first | exact HB.out | apply bl_alloc2 | apply bl_drew2 | apply bl_drewN2))) hb_); clear HB hb_; (try clear hq); have HB := HB_; clear HB_; have hq := CB.of HB.out)
      · go_ret
        exact ⟨ret_int (firstErr_is (hk := hlt) HF.out rfl (by simpa using (show (rgErr xs[k] lo hi != 0) = true by assumption))).symm, HB.out⟩
      · go_roundw
        case rel => exact ⟨k + 1, hlt, by go_num, HB.out, firstErr_next (hk := hlt) HF.out (by simpa using (show (rgErr xs[k] lo hi != 0) = false by assumption))⟩
        case measure => simp [intOf]; omega
    · go_wp2_with fail
      go_ret
      exact ⟨ret_int (firstErr_end HF.out (Nat.not_lt.1 hlt)).symm, HB.out⟩

theorem checkAll1_two (x y : Rg) (lo hi : Int) (w : World) :
    Calls Try.prog 85 #[.int .i64 lo, .int .i64 hi, .slice (some ⟨w.heap.size, 0, none⟩) 2 2] (w.alloc (.cells #[.int .i64 x.mn, .int .i64 x.mx, .int .i64 y.mn, .int .i64 y.mx] 26)) fun e w' => e = .returned (.int .i64 (allErr [x, y] lo hi)) ∧ Below (w.alloc (.cells #[.int .i64 x.mn, .int .i64 x.mx, .int .i64 y.mn, .int .i64 y.mx] 26)).heap.size (w.alloc (.cells #[.int .i64 x.mn, .int .i64 x.mx, .int .i64 y.mn, .int .i64 y.mx] 26)) w' :=
  checkAll1_calls [x, y] lo hi _ _ _ _ (row_new2 w x y) rfl (by simp)
theorem checkAll1_four (x y z u : Rg) (lo hi : Int) (w : World) :
    Calls Try.prog 85 #[.int .i64 lo, .int .i64 hi, .slice (some ⟨w.heap.size, 0, none⟩) 4 4] (w.alloc (.cells #[.int .i64 x.mn, .int .i64 x.mx, .int .i64 y.mn, .int .i64 y.mx, .int .i64 z.mn, .int .i64 z.mx, .int .i64 u.mn, .int .i64 u.mx] 26)) fun e w' => e = .returned (.int .i64 (allErr [x, y, z, u] lo hi)) ∧ Below (w.alloc (.cells #[.int .i64 x.mn, .int .i64 x.mx, .int .i64 y.mn, .int .i64 y.mx, .int .i64 z.mn, .int .i64 z.mx, .int .i64 u.mn, .int .i64 u.mx] 26)).heap.size (w.alloc (.cells #[.int .i64 x.mn, .int .i64 x.mx, .int .i64 y.mn, .int .i64 y.mx, .int .i64 z.mn, .int .i64 z.mx, .int .i64 u.mn, .int .i64 u.mx] 26)) w' :=
  checkAll1_calls [x, y, z, u] lo hi _ _ _ _ (row_new4 w x y z u) rfl (by simp)

set_option maxRecDepth 100000 in
set_option maxHeartbeats 1000000 in
theorem reedCheck_calls (j : Job) (A : Option Addr) (c : Nat) (w : World) (h : Row Rg.cs 2 w A j.shifts) (hm : j.shifts.length ≤ 1000000000000000) :
    Calls Try.prog 58 #[j.v A c] w fun e w' => e = .returned (.int .i64 (jobErr j)) ∧ Below w.heap.size w w' := by
  go_enter Try.func58, Try.ntmps58
  go_upto_region 1 with (fail)
  generalize hW : w.alloc _ = W
  generalize h1_ : w.heap.size = g1
  obtain ⟨hB0_, Hg1, kg1, fg1, lg1, bg1⟩ := gen1 w _ _ hW h1_
  clear hW h1_
  have H0W := Lib.hid hB0_
  clear hB0_
  have HHg1 := Lib.hid Hg1
  clear Hg1
  have HB := Lib.hid (Below.refl W.heap.size W)
  have HR := Lib.hid (h.below H0W.out)
  clear h
  go_wp2_with (first
    | (go_at_call 84; (with_reducible refine (checkRange1_calls j.t.pitch _ _ _).mono ?_); rintro e_ w1 ⟨rfl, hb_⟩; have HB_ := Lib.hid (bl_then2 (by (repeat (with_reducible first | exact HB.out | apply bl_alloc2 | apply bl_drew2 | apply bl_drewN2))) hb_); clear HB hb_; (try clear hq); have HB := HB_; clear HB_; have hq := CB.of HB.out)
    | (go_at_call 85; (with_reducible refine (checkAll1_two j.t.tip j.t.root _ _ _).mono ?_); rintro e_ w1 ⟨rfl, hb_⟩; have HB_ := Lib.hid (bl_then2 (by (repeat (with_reducible first | exact HB.out | apply bl_alloc2 | apply bl_drew2 | apply bl_drewN2))) hb_); clear HB hb_; (try clear hq); have HB := HB_; clear HB_; have hq := CB.of HB.out)
    | (go_at_call 85; (with_reducible refine (checkAll1_four j.f.up j.f.down j.f.tipw j.f.rootw _ _ _).mono ?_); rintro e_ w1 ⟨rfl, hb_⟩; have HB_ := Lib.hid (bl_then2 (by (repeat (with_reducible first | exact HB.out | apply bl_alloc2 | apply bl_drew2 | apply bl_drewN2))) hb_); clear HB hb_; (try clear hq); have HB := HB_; clear HB_; have hq := CB.of HB.out)
    | (go_at_call 85; (with_reducible refine (checkAll1_calls j.shifts _ _ _ _ _ _ (HR.out.below HB.out) rfl hm).mono ?_); rintro e_ w1 ⟨rfl, hb_⟩; have HB_ := Lib.hid (bl_then2 (by (repeat (with_reducible first | exact HB.out | apply bl_alloc2 | apply bl_drew2 | apply bl_drewN2))) hb_); clear HB hb_; (try clear hq); have HB := HB_; clear HB_; have hq := CB.of HB.out)
    | (go_at_call 86; (with_reducible refine (within1_calls _ _ _ _).mono ?_); rintro e_ w1 ⟨rfl, rfl⟩))
  all_goals (go_ret; refine ⟨ret_int ?_, by (repeat (first | exact bl_then H0W.out HB.out | exact H0W.out | exact HB.out | exact Below.refl _ _ | refine bl_set ?_ (by assumption) _ | refine bl_alloc ?_ _ | refine bl_drew ?_ | refine bl_drewN ?_ _))⟩; go_tidy; unfold jobErr orE; simp_all; try omega)

end Go.Proofs.Ytnclljamcfoolaa
namespace Go.Proofs.Ytnclljamcfoolaa
open Go.RowKit
set_option linter.unusedVariables false
set_option linter.unusedSimpArgs false

theorem Row.tail {α : Type} {enc : α → List Value} {sz : Nat} {w : World} {b o : Nat} {x : α} {xs : List α} (h : Row enc sz w (some ⟨b, o, none⟩) (x :: xs)) : Row enc sz w (some ⟨b, o + sz, none⟩) xs := by
  rcases h with h | ⟨b', o', hA, h⟩
  · cases h
  · cases hA
    refine .inr ⟨b, o + sz, rfl, fun i y hy j v hv => ?_⟩
    have := h (i + 1) y (by simpa using hy) j v hv
    rw [show o + sz + i * sz + j = o + (i + 1) * sz + j by rw [Nat.add_mul]; omega]
    exact this
theorem own_cap {w : World} {base : Nat} {e : TypeId} {size g n cap m : Nat} {xs : List Value} (h : w.ownsRow base e size (.slice (some ⟨g, 0, none⟩) n cap) m xs) : n ≤ cap := by
  obtain ⟨-, ⟨h, -⟩ | ⟨g', cap', cur, hv, -, -, hc, -⟩⟩ := h
  · cases h
  · cases hv; exact hc
/-- a row without its first thing, where Go's 's[1:]' lies -/
theorem Row.tail_at {α : Type} {enc : α → List Value} {sz : Nat} {w : World} {b cap : Nat} {x : α} {xs : List α} (h : Row enc sz w (some ⟨b, 0, none⟩) (x :: xs)) (hc : cap = 1 → xs.length = 0) : Row enc sz w (if cap = 1 then some ⟨b, 0, none⟩ else some ⟨b, sz, none⟩) xs := by
  by_cases h1 : cap = 1
  · exact .inl (List.eq_nil_of_length_eq_zero (hc h1))
  · rw [if_neg h1]
    have := h.tail
    rwa [Nat.zero_add] at this
/-- two structs that lie in the results' blocks -/
theorem ret_two_rows {P : Program} {fn : Func} {R : Ending → World → Prop} {a : Act} {w : World} {p q : Tmp} {ty : TypeId} (h : fn.results = #[.cell p ty, .cell q ty]) (g g' : Nat) (t : TypeId) (cs cs' : Array Value) (d : TypeDesc)
    (hp : a.tmps.getD p undef = .pointer (some ⟨g, 0, none⟩)) (hq : a.tmps.getD q undef = .pointer (some ⟨g', 0, none⟩)) (hg : w.heap[g]? = some (.cells cs t (0, 0))) (hg' : w.heap[g']? = some (.cells cs' t (0, 0))) (hu : P.underlying ty = some d) (hd : (match d with | .struct _ | .array _ _ => true | _ => false) = true)
    (hi : (P.info? ty).map (·.size) = some cs.size) (hi' : (P.info? ty).map (·.size) = some cs'.size) (hdf : a.defers = []) (hR : R (.returned (.tuple #[.agg cs, .agg cs'])) w) : bodyPost P fn R .ret a w := by
  refine bodyPost_ret ?_ hdf hR
  have hp' : a.tmps[p]?.getD undef = .pointer (some ⟨g, 0, none⟩) := by simpa using hp
  have hq' : a.tmps[q]?.getD undef = .pointer (some ⟨g', 0, none⟩) := by simpa using hq
  simp [results, h, hp', hq', asAddr, Sem.run_bind, Result.andThen, run_loadVar_row w g t ty cs (0, 0) d hg hu hd hi, run_loadVar_row w g' t ty cs' (0, 0) d hg' hu hd hi']
/-- a struct of two cells after a store -/
theorem set_two_row {w : World} {g : Nat} {a b : Value} {t : TypeId} (x y : Value) (h : w.heap[g]? = some (.cells #[a, b] t (0, 0))) : ((w.setCell ⟨g, 0, none⟩ x).setCell ⟨g, 1, none⟩ y).heap[g]? = some (.cells #[x, y] t (0, 0)) := by
  simp [World.setCell, Array.getElem?_modify, h]

theorem info26g : (Try.prog.info? 26).map (fun i => (i.zero, i.size, i.bytes)) = some (some (.agg #[.int .i64 0, .int .i64 0]), 2, 16) := by kernel_rfl
def surelyOf (j : Job) (s : Rg) : Rg := ⟨-j.within - s.mn, j.within - s.mx⟩
def maybeOf (j : Job) (s : Rg) : Rg := ⟨-j.within - s.mx, j.within - s.mn⟩
/-- two rows of the call's own lie apart -/
def apartV (v u : Value) : Prop := ∀ g, v.ownBlock = some g → u.ownBlock = some g → False

theorem apart_kept {u v : Value} (h : apartV u v) : v.ownBlock = none ∨ v.ownBlock ≠ u.ownBlock := by
  cases hv : v.ownBlock with
  | none => exact .inl rfl
  | some g => exact .inr fun e => h g e.symm hv
theorem jobErr_zero {j : Job} (h : jobErr j = 0) : rgErr j.t.pitch (-60) 60 = 0 ∧ allErr [j.t.tip, j.t.root] 0 100 = 0 ∧ allErr [j.f.up, j.f.down, j.f.tipw, j.f.rootw] 0 12 = 0 ∧ 0 ≤ j.f.least ∧ j.f.least ≤ 100 ∧ j.shifts.length ≤ 4 ∧ (∀ s ∈ j.shifts, rgErr s (-60) 60 = 0) ∧ 0 ≤ j.within ∧ j.within ≤ 60 ∧ 0 ≤ j.meter ∧ j.meter ≤ 6 := by
  unfold jobErr orE at h
  split at h
  · next h1 =>
    split at h
    · next h2 =>
      split at h
      · next h3 =>
        split at h
        · cases h
        · next h4 =>
          split at h
          · cases h
          · next h5 =>
            split at h
            · next h6 =>
              split at h
              · cases h
              · next h7 =>
                split at h
                · cases h
                · next h8 =>
                  simp only [Bool.not_eq_false, inB_true] at h4 h7 h8
                  exact ⟨h1, h2, h3, h4.1, h4.2, by omega, (firstErr_zero _ _).1 h6, h7.1, h7.2, h8.1, h8.2⟩
            · next h6 => exact absurd h h6
      · next h3 => exact absurd h h3
    · next h2 => exact absurd h h2
  · next h1 => exact absurd h h1

set_option maxRecDepth 100000 in
set_option maxHeartbeats 2000000 in
theorem windows_calls (j : Job) (A : Option Addr) (c : Nat) (w : World) (h : Row Rg.cs 2 w A j.shifts) (hj : jobErr j = 0) :
    Calls Try.prog 87 #[j.v A c] w fun e w' => e = .returned (.tuple #[(surelyR j).v, (maybeR j).v]) ∧ Below w.heap.size w w' := by
  obtain ⟨-, -, -, -, -, hl4, hsh, hw1, hw2, -, -⟩ := jobErr_zero hj
  have HR := Lib.hid h
  have HSH := Lib.hid (fun s hs => rgErr_zero (hsh s hs))
  clear h hsh
  unfold Job.v
  go_enter Try.func87, Try.ntmps87
  go_upto_region 2 with (fail)
  generalize hW : (((w.alloc _).alloc _).alloc _).alloc _ = W
  generalize h4_ : w.heap.size + 1 + 1 + 1 = g4
  generalize h3_ : w.heap.size + 1 + 1 = g3
  generalize h2_ : w.heap.size + 1 = g2
  generalize h1_ : w.heap.size = g1
  obtain ⟨hB0_, Hg1, Hg2, Hg3, Hg4, kg1, kg2, kg3, kg4, fg1, fg2, fg3, fg4, lg1, lg2, lg3, lg4, bg1, bg2, bg3, bg4, ng12, ng13, ng14, ng21, ng23, ng24, ng31, ng32, ng34, ng41, ng42, ng43⟩ := gen4 w _ _ _ _ _ _ _ _ hW h4_ h3_ h2_ h1_
  clear hW h1_ h2_ h3_ h4_
  have H0W := Lib.hid hB0_
  clear hB0_
  have HHg1 := Lib.hid Hg1
  have HHg2 := Lib.hid Hg2
  have HHg3 := Lib.hid Hg3
  have HHg4 := Lib.hid Hg4
  clear Hg1 Hg2 Hg3 Hg4
  have HB := Lib.hid (Below.refl W.heap.size W)
  by_cases hemp : j.shifts = []
  · have e1 : surelyR j = ⟨-j.within, j.within⟩ := by unfold surelyR; rw [hemp]
    have e2 : maybeR j = ⟨-j.within, j.within⟩ := by unfold maybeR; rw [hemp]
    have HE := Lib.hid (And.intro e1 e2)
    clear e1 e2
    have hlen : (j.shifts.length : Int) = 0 := by rw [hemp]; rfl
    clear hemp
    go_upto_region 3 with (fail)
    have n42 : g4 ≠ g2 := fun h => by rw [h] at ng42; exact ng42 ▸ rfl
    have n32 : g3 ≠ g2 := fun h => by rw [h] at ng32; exact ng32 ▸ rfl
    have n23 : g2 ≠ g3 := fun h => n32 h.symm
    refine wp_region_peel (S := fun w' => ∀ j', w'.cell? ⟨g4, j', none⟩ = #[Value.int IntKind.i64 (-j.within), Value.int IntKind.i64 j.within][j']?) 3 _ _ (by kernel_rfl) rfl rfl rfl (by kernel_rfl) (by kernel_rfl) kg4 (fun hHeld => ?_)
    simp only [Act.put, stillOf, List.set_cons_succ, List.set_cons_zero, List.setIfInBounds_toArray, List.getElem_toArray, List.getElem_cons_succ, List.getElem_cons_zero]
    refine wpAnyH_take (i := 0) (v := ?_) rfl (by kernel_rfl) (by kernel_rfl) (by kernel_rfl) (fun _ _ _ h => h) (Or.inl ⟨by rfl, ?_⟩) (by assumption) ?_; rotate_left 1; (focus ((intro w_ hS_; (try dsimp only at hS_); go_simp; first | done | with_reducible rfl))); simp only [Act.put, stillOf, List.set_cons_succ, List.set_cons_zero, List.setIfInBounds_toArray, List.getElem_toArray, List.getElem_cons_succ, List.getElem_cons_zero]
    refine wpAnyH_take (i := 1) (v := ?_) rfl (by kernel_rfl) (by kernel_rfl) (by kernel_rfl) (fun _ _ _ h => h) (Or.inl ⟨by rfl, ?_⟩) (by assumption) ?_; rotate_left 1; (focus ((intro w_ hS_; (try dsimp only at hS_); go_simp; first | done | with_reducible rfl))); simp only [Act.put, stillOf, List.set_cons_succ, List.set_cons_zero, List.setIfInBounds_toArray, List.getElem_toArray, List.getElem_cons_succ, List.getElem_cons_zero]
    refine wpAnyH_ready (rs := [2]) (by kernel_rfl) (by simp) (AllReadyH.cons rfl (fun K hK => ?_) AllReadyH.nil)
    go_simp
    refine hK.out _ _ (fun j' => ((wrote_setCell _ g2 1 _).cell n42 _).trans (((wrote_setCell _ g2 0 _).cell n42 _).trans (kg4 j'))) (fun hHeld => ?_)
    clear hK K
    refine wpAnyH_take (i := 3) (v := ?_) rfl (by kernel_rfl) (by kernel_rfl) (by kernel_rfl) (fun _ _ _ h => h) (Or.inl ⟨by rfl, ?_⟩) (by assumption) ?_; rotate_left 1; (focus ((intro w_ hS_; (try dsimp only at hS_); go_simp; first | done | with_reducible rfl))); simp only [Act.put, stillOf, List.set_cons_succ, List.set_cons_zero, List.setIfInBounds_toArray, List.getElem_toArray, List.getElem_cons_succ, List.getElem_cons_zero]
    refine wpAnyH_done (by kernel_rfl) ?_ _
    unfold Peeled
    dsimp only
    go_simp
    go_wp2_with fail
    refine ret_two_rows rfl g2 g3 26 _ _ _ rfl rfl (((wrote_setCell _ g3 1 _).block g2 n23).trans (((wrote_setCell _ g3 0 _).block g2 n23).trans (set_two_row _ _ HHg2.out))) (set_two_row _ _ (((wrote_setCell _ g2 1 _).block g3 n32).trans (((wrote_setCell _ g2 0 _).block g3 n32).trans HHg3.out))) Try.underlying26 rfl size26g size26g rfl ⟨by rw [HE.out.1, HE.out.2], ?_⟩
    exact bl_drew (bl_set (bl_set (bl_set (bl_set H0W.out bg2 _) bg2 _) bg3 _) bg3 _)
  · obtain ⟨s0, l0, hs0⟩ : ∃ s0 l0, j.shifts = s0 :: l0 := by
      cases hsh : j.shifts with
      | nil => exact absurd hsh hemp
      | cons a l => exact ⟨a, l, rfl⟩
    have e1 : surelyR j = meetL (surelyOf j s0) (l0.map (surelyOf j)) := by unfold surelyR; rw [hs0]; rfl
    have e2 : maybeR j = meetL (maybeOf j s0) (l0.map (maybeOf j)) := by unfold maybeR; rw [hs0]; rfl
    have HE := Lib.hid (And.intro e1 e2)
    have HS0 := Lib.hid hs0
    have hlen : ((j.shifts.length : Int) == 0) = false := by rw [hs0]; simp; omega
    have hpos : 0 < j.shifts.length := by rw [hs0]; simp
    clear e1 e2 hs0 hemp
    obtain ⟨i0, hi, hz0, hz1, hz2⟩ := info_parts info26g
    have HZ := Lib.hid (And.intro hi (And.intro hz0 (And.intro hz1 hz2)))
    clear hi hz0 hz1 hz2
    go_upto_block 0 with (fail)
    go_wp2_with fail
    go_loopw [5, 6, 24] (fun u v i wr => ∃ k : Nat, k ≤ j.shifts.length ∧ i = .int .i64 k ∧ Hid (Below W.heap.size W wr ∧ wr.ownsRow W.heap.size 26 2 u k (flat Rg.cs ((j.shifts.take k).map (surelyOf j))) ∧ wr.ownsRow W.heap.size 26 2 v k (flat Rg.cs ((j.shifts.take k).map (maybeOf j))) ∧ apartV u v))
      (fun u v i _ => j.shifts.length - (intOf i).toNat)
    case atStart => exact ⟨0, Nat.zero_le _, rfl, Lib.hid ⟨Below.refl _ _, own_nil _ _ _ _, own_nil _ _ _ _, fun g h _ => by cases h⟩⟩
    case round =>
      obtain ⟨k, hk, rfl, HH⟩ := hrel
      have HB := Lib.hid HH.out.1
      have HO := Lib.hid HH.out.2.1
      have HP := Lib.hid HH.out.2.2.1
      have HD := Lib.hid HH.out.2.2.2
      clear HH
      have hq := CB.of HB.out
      by_cases hlt : k < j.shifts.length
      · have hlti : ((k : Int) < (j.shifts.length : Int)) := by omega
        obtain ⟨b, o, rfl, hlb, c0, c1⟩ := ((HR.out.below H0W.out).below HB.out).rg k hlt
        have hbd := HSH.out _ (List.getElem_mem hlt)
        go_upto_region 8 with (fail)
        have hxo := Lib.hid HO.out.lt
        generalize hW : wr.alloc _ = V
        generalize h1_ : wr.heap.size = x1
        obtain ⟨hB0_, Hx1, kx1, fx1, lx1, bx1⟩ := gen1 wr _ _ hW h1_
        clear hW h1_
        have H0V := Lib.hid hB0_
        clear hB0_
        have HHx1 := Lib.hid Hx1
        clear Hx1
        have HO1 := Lib.hid (own_below HO.out H0V.out)
        have HP1 := Lib.hid (own_below HP.out H0V.out)
        have HBV := Lib.hid (bl_then HB.out H0V.out)
        have kx : ∀ j', V.cell? ⟨g4, j', none⟩ = #[Value.int IntKind.i64 (-j.within), Value.int IntKind.i64 j.within][j']? := fun j' => ((CB.of HBV.out).1 _ _ lg4).trans (kg4 j')
        have l4 : g4 < V.heap.size := Nat.lt_of_lt_of_le lg4 HBV.out.size
        clear HB hq HO HP c0 c1 H0V
        have HB := HBV
        clear HBV
        go_upto_region 9 with (first
          | (at_builtin; refine wpList_append_lies _ rfl _ _ 34 rfl W.heap.size 26 i0 _ 2 16 Try.underlying34 HZ.out.1 HZ.out.2.1 HZ.out.2.2.1 HZ.out.2.2.2 rfl (by decide) _ k _ rfl (HO1.out.alloc _) ⟨V.heap.size, 0, none⟩ 1 1 (Rg.cs (surelyOf j j.shifts[k])) rfl rfl (World.news_of_block (cs := (Rg.cs (surelyOf j j.shifts[k])).toArray) (t := 26) (fr := (0, 0)) (heap_alloc_new _ _)) ?a1 (by decide) ?a2 ?a3 ?a4 (V.heap.size + 1) ?a5 ?_
             (case a1 => simp [Value.oneCell', Rg.cs])
             (case a2 => unfold maxLen; omega)
             (case a3 => omega)
             (case a4 => have := HB.out.size; simp; omega)
             (case a5 => simp)
             intro gg2 cap2 w2 hown2 hgrow2 hat2 hlt2))
        have HB2 := Lib.hid (bl_grown (bl_alloc HB.out _) (bl_alloc HB.out _).size hgrow2 (fun q hq_ => (HO1.out.lt q hq_).1))
        have hqg := CB.of (bl_alloc (Below.refl V.heap.size V) (.cells #[.int .i64 (-j.within - j.shifts[k].mn), .int .i64 (j.within - j.shifts[k].mx)] 26))
        have kx2 : ∀ j', w2.cell? ⟨x1, j', none⟩ = #[Value.int IntKind.i64 j.shifts[k].mn, Value.int IntKind.i64 j.shifts[k].mx][j']? := fun j' =>
          (World.cell?_of_block (a := ⟨x1, j', none⟩) (hgrow2.block x1 (by simp; omega) (fun e => by have := (hxo.out x1 e.symm).2; omega))).trans ((hqg.1 _ _ lx1).trans (kx1 j'))
        have k42 : ∀ j', w2.cell? ⟨g4, j', none⟩ = #[Value.int IntKind.i64 (-j.within), Value.int IntKind.i64 j.within][j']? := fun j' => ((CB.of HB2.out).1 _ _ lg4).trans (kg4 j')
        have HP2 := Lib.hid ((HP1.out.alloc (.cells #[.int .i64 (-j.within - j.shifts[k].mn), .int .i64 (j.within - j.shifts[k].mx)] 26)).kept hgrow2 (apart_kept HD.out))
        have HO2 := Lib.hid hown2
        have HA2 := Lib.hid hat2
        have HU := Lib.hid HO1.out.lt
        have HV := Lib.hid HP1.out.lt
        have HG := Lib.hid hgrow2.size
        clear hown2 hgrow2 hat2 HP1 HO1 hqg kx kx1 HB hxo
        have HB := HB2
        clear HB2
        go_wp2_with (first
          | (at_builtin; refine wpList_append_lies _ rfl _ _ 34 rfl W.heap.size 26 i0 _ 2 16 Try.underlying34 HZ.out.1 HZ.out.2.1 HZ.out.2.2.1 HZ.out.2.2.2 rfl (by decide) _ k _ rfl (HP2.out.alloc _) ⟨w2.heap.size, 0, none⟩ 1 1 (Rg.cs (maybeOf j j.shifts[k])) rfl rfl (World.news_of_block (cs := (Rg.cs (maybeOf j j.shifts[k])).toArray) (t := 26) (fr := (0, 0)) (heap_alloc_new _ _)) ?a1 (by decide) ?a2 ?a3 ?a4 (w2.heap.size + 1) ?a5 ?_
             (case a1 => simp [Value.oneCell', Rg.cs])
             (case a2 => unfold maxLen; omega)
             (case a3 => omega)
             (case a4 => have := HB.out.size; simp; omega)
             (case a5 => simp)
             intro gg3 cap3 w3 hown3 hgrow3 hat3 hlt3))
        have HB3 := bl_grown (bl_alloc HB.out _) (bl_alloc HB.out _).size hgrow3 (fun q hq_ => (HP2.out.lt q hq_).1)
        have hne : some gg2 ≠ u6.ownBlock := fun e => by
          rcases HA2.out with h | h
          · exact HD.out _ h e.symm
          · have := (HV.out _ e.symm).2; omega
        have hO3 := (HO2.out.alloc (.cells #[.int .i64 (-j.within - j.shifts[k].mx), .int .i64 (j.within - j.shifts[k].mn)] 26)).kept hgrow3 (.inr hne)
        refine ⟨⟨k + 1, by omega, by simp, Lib.hid ⟨HB3, ?_, ?_, ?_⟩⟩, ?_⟩
        · rw [List.take_succ_eq_append_getElem hlt, List.map_append, List.map_cons, List.map_nil, flat_snoc]; exact hO3
        · rw [List.take_succ_eq_append_getElem hlt, List.map_append, List.map_cons, List.map_nil, flat_snoc]; exact hown3
        · intro g h1 h2
          obtain rfl : gg2 = g := by simpa [Value.ownBlock] using h1
          obtain rfl : gg3 = gg2 := by simpa [Value.ownBlock] using h2
          rcases hat3 with h | h
          · exact hne h.symm
          · omega
        · simp [intOf]; omega
      · have hn : j.shifts.length = l0.length + 1 := by rw [HS0.out]; rfl
        obtain rfl : k = l0.length + 1 := by omega
        obtain ⟨ga, capa, rfl⟩ := row_slice HO.out (by omega)
        obtain ⟨gb, capb, rfl⟩ := row_slice HP.out (by omega)
        have ba := (HO.out.lt ga rfl).1
        have bb := (HP.out.lt gb rfl).1
        have el : ∀ f : Rg → Rg, (j.shifts.take (l0.length + 1)).map f = f s0 :: l0.map f := fun f => by rw [HS0.out]; simp
        have hR1 := row_of_own (enc := Rg.cs) (sz := 2) (fun _ => rfl) HO.out
        have hR2 := row_of_own (enc := Rg.cs) (sz := 2) (fun _ => rfl) HP.out
        rw [el] at hR1 hR2
        obtain ⟨b1, o1, hA1, lb1, x0, x1⟩ := hR1.rg 0 (by simp)
        obtain ⟨rfl, rfl⟩ : ga = b1 ∧ 0 = o1 := by simpa using hA1
        obtain ⟨b2, o2, hA2, lb2, y0, y1⟩ := hR2.rg 0 (by simp)
        obtain ⟨rfl, rfl⟩ : gb = b2 ∧ 0 = o2 := by simpa using hA2
        simp only [Nat.zero_mul, Nat.zero_add, List.getElem_cons_zero] at x0 x1 y0 y1
        have hc1 := own_cap HO.out
        have hc2 := own_cap HP.out
        have HT1 := Lib.hid (hR1.tail_at (cap := capa) (fun h => by rw [List.length_map]; omega))
        have HT2 := Lib.hid (hR2.tail_at (cap := capb) (fun h => by rw [List.length_map]; omega))
        clear hc1 hc2
        have h1l : (1 : Int) ≤ (l0.length : Int) + 1 := by omega
        have HWr := Lib.hid (bl_then H0W.out HB.out)
        have HG2 := Lib.hid ((HB.out.block _ lg2).trans HHg2.out)
        have HG3 := Lib.hid ((HB.out.block _ lg3).trans HHg3.out)
        have lg2r := Nat.lt_of_lt_of_le lg2 HB.out.size
        have lg3r := Nat.lt_of_lt_of_le lg3 HB.out.size
        have hll : l0.length ≤ 3 := by omega
        generalize surelyOf j s0 = a at *
        generalize maybeOf j s0 = a' at *
        clear hA1 hA2 hR1 hR2 HO HP HD el HB hq
        have HS9 := Lib.hid (show ∀ w', Below wr.heap.size wr w' → w'.cell? ⟨ga, 0, none⟩ = some (.int .i64 a.mn) ∧ w'.cell? ⟨ga, 1, none⟩ = some (.int .i64 a.mx) ∧ w'.cell? ⟨gb, 0, none⟩ = some (.int .i64 a'.mn) ∧ w'.cell? ⟨gb, 1, none⟩ = some (.int .i64 a'.mx) from
          fun w' h => ⟨((CB.of h).1 _ _ lb1).trans x0, ((CB.of h).1 _ _ lb1).trans x1, ((CB.of h).1 _ _ lb2).trans y0, ((CB.of h).1 _ _ lb2).trans y1⟩)
        have hM1 := Lib.hid (show ∀ w', Below wr.heap.size wr w' → Calls Try.prog 88 #[.agg #[.int .i64 a.mn, .int .i64 a.mx], .slice (if capa = 1 then some ⟨ga, 0, none⟩ else some ⟨ga, 2, none⟩) l0.length (capa - 1)] w' fun e w'' => e = .returned (surelyR j).v ∧ Below w'.heap.size w' w'' from fun w' hb => by
          have h := meetG_calls a (l0.map (surelyOf j)) _ (capa - 1) w' (HT1.out.below hb) (by rw [List.length_map]; omega)
          rw [List.length_map, ← HE.out.1] at h
          exact h)
        have hM2 := Lib.hid (show ∀ w', Below wr.heap.size wr w' → Calls Try.prog 88 #[.agg #[.int .i64 a'.mn, .int .i64 a'.mx], .slice (if capb = 1 then some ⟨gb, 0, none⟩ else some ⟨gb, 2, none⟩) l0.length (capb - 1)] w' fun e w'' => e = .returned (maybeR j).v ∧ Below w'.heap.size w' w'' from fun w' hb => by
          have h := meetG_calls a' (l0.map (maybeOf j)) _ (capb - 1) w' (HT2.out.below hb) (by rw [List.length_map]; omega)
          rw [List.length_map, ← HE.out.2] at h
          exact h)
        clear HE HT1 HT2
        obtain ⟨p1, hp1⟩ : ∃ p1, surelyR j = p1 := ⟨_, rfl⟩
        obtain ⟨p2, hp2⟩ : ∃ p2, maybeR j = p2 := ⟨_, rfl⟩
        rw [hp1] at hM1
        rw [hp2] at hM2
        have HPP := Lib.hid (And.intro hp1 hp2)
        clear hp1 hp2
        have n32 : g3 ≠ g2 := fun h => by rw [h] at ng32; exact ng32 ▸ rfl
        have n23 : g2 ≠ g3 := fun h => n32 h.symm
        have HB := Lib.hid (Below.refl wr.heap.size wr)
        go_upto_region 11 with (fail)
        refine wp_region_peel (S := fun w' => w'.cell? ⟨ga, 0, none⟩ = some (.int .i64 a.mn) ∧ w'.cell? ⟨ga, 1, none⟩ = some (.int .i64 a.mx) ∧ w'.cell? ⟨gb, 0, none⟩ = some (.int .i64 a'.mn) ∧ w'.cell? ⟨gb, 1, none⟩ = some (.int .i64 a'.mx)) 13 _ _ (by kernel_rfl) rfl rfl rfl (by kernel_rfl) (by kernel_rfl) (HS9.out _ (bl_drew (Below.refl _ _))) (fun hHeld => ?_)
        simp only [Act.put, stillOf, List.set_cons_succ, List.set_cons_zero, List.setIfInBounds_toArray, List.getElem_toArray, List.getElem_cons_succ, List.getElem_cons_zero]
        refine wpAnyH_take (i := 0) (v := ?_) rfl (by kernel_rfl) (by kernel_rfl) (by kernel_rfl) (fun _ _ _ h => h) (Or.inl ⟨by rfl, ?_⟩) (by assumption) ?_; rotate_left 1; (focus ((intro w_ hS_; (try dsimp only at hS_); go_simp; first | done | with_reducible rfl))); simp only [Act.put, stillOf, List.set_cons_succ, List.set_cons_zero, List.setIfInBounds_toArray, List.getElem_toArray, List.getElem_cons_succ, List.getElem_cons_zero]
        refine wpAnyH_take (i := 1) (v := ?_) rfl (by kernel_rfl) (by kernel_rfl) (by kernel_rfl) (fun _ _ _ h => h) (Or.inl ⟨by rfl, ?_⟩) (by assumption) ?_; rotate_left 1; (focus ((intro w_ hS_; (try dsimp only at hS_); go_simp; first | done | with_reducible rfl))); simp only [Act.put, stillOf, List.set_cons_succ, List.set_cons_zero, List.setIfInBounds_toArray, List.getElem_toArray, List.getElem_cons_succ, List.getElem_cons_zero]
        refine wpAnyH_take (i := 2) (v := ?_) rfl (by kernel_rfl) (by kernel_rfl) (by kernel_rfl) (fun _ _ _ h => h) (Or.inl ⟨by rfl, ?_⟩) (by assumption) ?_; rotate_left 1; (focus ((intro w_ hS_; (try dsimp only at hS_); go_simp; first | done | with_reducible rfl))); simp only [Act.put, stillOf, List.set_cons_succ, List.set_cons_zero, List.setIfInBounds_toArray, List.getElem_toArray, List.getElem_cons_succ, List.getElem_cons_zero]
        refine wpAnyH_take (i := 3) (v := ?_) rfl (by kernel_rfl) (by kernel_rfl) (by kernel_rfl) (fun _ _ _ h => h) (Or.inl ⟨by rfl, ?_⟩) (by assumption) ?_; rotate_left 1; (focus ((intro w_ hS_; (try dsimp only at hS_); go_simp; first | done | with_reducible rfl))); simp only [Act.put, stillOf, List.set_cons_succ, List.set_cons_zero, List.setIfInBounds_toArray, List.getElem_toArray, List.getElem_cons_succ, List.getElem_cons_zero]
        refine wpAnyH_take (i := 4) (v := ?_) rfl (by kernel_rfl) (by kernel_rfl) (by kernel_rfl) (fun _ _ _ h => h) (Or.inl ⟨by rfl, ?_⟩) (by assumption) ?_; rotate_left 1; (focus ((intro w_ hS_; (try dsimp only at hS_); go_simp; first | done | with_reducible rfl))); simp only [Act.put, stillOf, List.set_cons_succ, List.set_cons_zero, List.setIfInBounds_toArray, List.getElem_toArray, List.getElem_cons_succ, List.getElem_cons_zero]
        refine wpAnyH_take (i := 6) (v := ?_) rfl (by kernel_rfl) (by kernel_rfl) (by kernel_rfl) (fun _ _ _ h => h) (Or.inl ⟨by rfl, ?_⟩) (by assumption) ?_; rotate_left 1; (focus ((intro w_ hS_; (try dsimp only at hS_); go_simp; first | done | with_reducible rfl))); simp only [Act.put, stillOf, List.set_cons_succ, List.set_cons_zero, List.setIfInBounds_toArray, List.getElem_toArray, List.getElem_cons_succ, List.getElem_cons_zero]
        refine wpAnyH_take (i := 7) (v := ?_) rfl (by kernel_rfl) (by kernel_rfl) (by kernel_rfl) (fun _ _ _ h => h) (Or.inl ⟨by rfl, ?_⟩) (by assumption) ?_; rotate_left 1; (focus ((intro w_ hS_; (try dsimp only at hS_); go_simp; first | done | with_reducible rfl))); simp only [Act.put, stillOf, List.set_cons_succ, List.set_cons_zero, List.setIfInBounds_toArray, List.getElem_toArray, List.getElem_cons_succ, List.getElem_cons_zero]
        refine wpAnyH_take (i := 8) (v := ?_) rfl (by kernel_rfl) (by kernel_rfl) (by kernel_rfl) (fun _ _ _ h => h) (Or.inl ⟨by rfl, ?_⟩) (by assumption) ?_; rotate_left 1; (focus ((intro w_ hS_; (try dsimp only at hS_); go_simp; first | done | with_reducible rfl))); simp only [Act.put, stillOf, List.set_cons_succ, List.set_cons_zero, List.setIfInBounds_toArray, List.getElem_toArray, List.getElem_cons_succ, List.getElem_cons_zero]
        refine wpAnyH_take (i := 9) (v := ?_) rfl (by kernel_rfl) (by kernel_rfl) (by kernel_rfl) (fun _ _ _ h => h) (Or.inl ⟨by rfl, ?_⟩) (by assumption) ?_; rotate_left 1; (focus ((intro w_ hS_; (try dsimp only at hS_); go_simp; first | done | with_reducible rfl))); simp only [Act.put, stillOf, List.set_cons_succ, List.set_cons_zero, List.setIfInBounds_toArray, List.getElem_toArray, List.getElem_cons_succ, List.getElem_cons_zero]
        refine wpAnyH_take (i := 10) (v := ?_) rfl (by kernel_rfl) (by kernel_rfl) (by kernel_rfl) (fun _ _ _ h => h) (Or.inl ⟨by rfl, ?_⟩) (by assumption) ?_; rotate_left 1; (focus ((intro w_ hS_; (try dsimp only at hS_); go_simp; first | done | with_reducible rfl))); simp only [Act.put, stillOf, List.set_cons_succ, List.set_cons_zero, List.setIfInBounds_toArray, List.getElem_toArray, List.getElem_cons_succ, List.getElem_cons_zero]
        refine wpAnyH_ready (rs := [5]) (by kernel_rfl) (by simp) (AllReadyH.cons rfl (fun K hK => ?_) AllReadyH.nil)
        go_simp
        (go_at_call 88; refine (hM1.out _ (by (repeat (with_reducible first | exact HB.out | apply bl_alloc2 | apply bl_drew2 | apply bl_drewN2)))).mono ?_; rintro e_ w5 ⟨rfl, hb_⟩; have HB_ := Lib.hid (bl_then2 (by (repeat (with_reducible first | exact HB.out | apply bl_alloc2 | apply bl_drew2 | apply bl_drewN2))) hb_); clear HB hb_; (try clear hq); have HB := HB_; clear HB_; have hq := CB.of HB.out)
        refine hK.out _ _ (HS9.out _ HB.out) (fun hHeld => ?_)
        clear hK K
        refine wpAnyH_ready (rs := [11]) (by kernel_rfl) (by simp) (AllReadyH.cons rfl (fun K hK => ?_) AllReadyH.nil)
        go_simp
        (go_at_call 88; refine (hM2.out _ (by (repeat (with_reducible first | exact HB.out | apply bl_alloc2 | apply bl_drew2 | apply bl_drewN2)))).mono ?_; rintro e_ w6 ⟨rfl, hb_⟩; have HB_ := Lib.hid (bl_then2 (by (repeat (with_reducible first | exact HB.out | apply bl_alloc2 | apply bl_drew2 | apply bl_drewN2))) hb_); clear HB hb_; (try clear hq); have HB := HB_; clear HB_; have hq := CB.of HB.out)
        refine hK.out _ _ (HS9.out _ HB.out) (fun hHeld => ?_)
        clear hK K
        have G2 := (HB.out.block _ lg2r).trans HG2.out
        have G3 := (HB.out.block _ lg3r).trans HG3.out
        refine wpAnyH_ready (rs := [12]) (by kernel_rfl) (by simp) (AllReadyH.cons rfl (fun K hK => ?_) AllReadyH.nil)
        refine step_store_blk rfl 26 _ _ rfl g2 0 [.int .i64 p1.mn, .int .i64 p1.mx] rfl rfl 26 _ #[.int .i64 p1.mn, .int .i64 p1.mx] G2 size26g (by simp) (by simp [Value.oneCell']) (by simp) (fun w7 hg7 hw7 => ?_)
        have hs6 := HS9.out _ HB.out
        refine hK.out _ _ ⟨(hw7.cell (by omega) _).trans hs6.1, (hw7.cell (by omega) _).trans hs6.2.1, (hw7.cell (by omega) _).trans hs6.2.2.1, (hw7.cell (by omega) _).trans hs6.2.2.2⟩ (fun hHeld => ?_)
        clear hK K
        have G37 := (hw7.block _ n32).trans G3
        have HF := Lib.hid (hw7.below (bl_then HWr.out HB.out) bg2)
        refine wpAnyH_take (i := 13) (v := ?_) rfl (by kernel_rfl) (by kernel_rfl) (by kernel_rfl) (fun _ _ _ h => h) (Or.inl ⟨by rfl, ?_⟩) (by assumption) ?_; rotate_left 1; (focus ((intro w_ hS_; (try dsimp only at hS_); go_simp; first | done | with_reducible rfl))); simp only [Act.put, stillOf, List.set_cons_succ, List.set_cons_zero, List.setIfInBounds_toArray, List.getElem_toArray, List.getElem_cons_succ, List.getElem_cons_zero]
        refine wpAnyH_done (by kernel_rfl) ?_ _
        unfold Peeled
        dsimp only
        refine wp_store_blk 26 _ _ rfl g3 0 [.int .i64 p2.mn, .int .i64 p2.mx] rfl rfl 26 _ #[.int .i64 p2.mn, .int .i64 p2.mx] G37 size26g (by simp) (by simp [Value.oneCell']) (by simp) (fun w8 hg8 hw8 => ?_)
        go_wp2_with fail
        all_goals (
          refine ret_two_rows rfl g2 g3 26 _ _ _ rfl rfl ((hw8.block _ n23).trans hg7) hg8 Try.underlying26 rfl size26g size26g rfl ⟨by rw [HPP.out.1, HPP.out.2], ?_⟩
          exact hw8.below HF.out bg3)

end Go.Proofs.Ytnclljamcfoolaa
