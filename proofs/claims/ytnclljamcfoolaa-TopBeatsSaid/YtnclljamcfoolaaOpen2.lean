/- How a box is opened: its numbers, and its two rows of sounds. -/
import Derived.Test.YtnclljamcfoolaaOpen
import Derived.KernelRfl
namespace Go.Proofs.Ytnclljamcfoolaa
open Go.ChangeShapes Go.WideShapes Go.RowKit Go.Deep
set_option linter.unusedVariables false

section
variable {H : Type} {P : Program}
theorem size_part {t : TypeId} {fs : Array Field} (hu : P.underlying t = some (.struct fs)) {parts : List (DataW H)} (h : ∀ n ∈ (DataW.agg parts).weights P t, n ≤ reachBytes) {j : Nat} {f : Field} {d : DataW H} (hf : fs[j]? = some f) (hd : parts[j]? = some d) : ∀ n ∈ d.weights P f.type, n ≤ reachBytes := by
  intro n hn
  refine h n ?_
  simp only [DataW.weights, hu]
  exact DataW.weights_mem_each (by simp [hf]) hd n hn
theorem size_slice {t e : TypeId} (hu : P.underlying t = some (.slice e)) {es sp : List (DataW H)} (h : ∀ n ∈ (DataW.slice es sp).weights P t, n ≤ reachBytes) (hb : 0 < P.bytesOf e) : es.length ≤ 1000000000000000 := by
  have h1 := h ((es.length + sp.length) * P.bytesOf e) (by simp [DataW.weights, hu])
  have h2 : reachBytes < 2 ^ 47 := reachBytes_lt
  have h3 : (es.length + sp.length) * 1 ≤ (es.length + sp.length) * P.bytesOf e := Nat.mul_le_mul_left _ hb
  omega
theorem size_arg {ts : List TypeId} {ds : List (DataW H)} (h : (DataW.weightsEach P ts ds).all (· ≤ reachBytes) = true) {j : Nat} {t : TypeId} {d : DataW H} (ht : ts[j]? = some t) (hd : ds[j]? = some d) : ∀ n ∈ d.weights P t, n ≤ reachBytes := fun n hn => by
  have := List.all_eq_true.1 h n (DataW.weights_mem_each ht hd n hn)
  simpa using this
end

def deSnd (l : List Int) : Snd := ⟨⟨l.getD 0 0, l.getD 1 0⟩, ⟨l.getD 2 0, l.getD 3 0⟩⟩
theorem deSnd_cs (l : List Int) (h : l.length = 4) : Snd.cs (deSnd l) = l.map (Value.int .i64) := by
  match l, h with
  | [a, b, c, d], _ => rfl

theorem cells23 : Try.prog.cellsOf 23 = 4 := by kernel_rfl
theorem cells3 : Try.prog.cellsOf 3 = 1 := by kernel_rfl
theorem cells24 : Try.prog.cellsOf 24 = 1 := by kernel_rfl
theorem cells26 : Try.prog.cellsOf 26 = 2 := by kernel_rfl
theorem cells28 : Try.prog.cellsOf 28 = 9 := by kernel_rfl
theorem cells30 : Try.prog.cellsOf 30 = 21 := by kernel_rfl

set_option maxRecDepth 100000 in
theorem open_box {H : Type} {enc : TypeId × Value → H} {w : World} {r : Reach} {b0 base : Nat} {spare : Nat → Bool} {held : Bool} {v : Value} {d : DataW H} {p : List MemPlace} (hv : Value.okWide Try.prog w r b0 30 v) (h : DataW.Trod enc Try.prog w base spare held 30 v d p) (hz : ∀ n ∈ d.weights Try.prog 30, n ≤ reachBytes) :
    ∃ (b : Box) (A1 A2 : Option Addr) (c1 c2 : Nat), v = b.v A1 c1 A2 c2 ∧ Row Snd.cs 4 w A1 b.lows ∧ Row Snd.cs 4 w A2 b.highs ∧ b.lows.length ≤ 1000000000000000 ∧ b.highs.length ≤ 1000000000000000 := by
  obtain ⟨cs, rfl, hsz⟩ := okWide_struct Try.underlying30 hv
  obtain ⟨fuel, hf⟩ := h
  obtain ⟨l⟩ := cs
  obtain ⟨xs, n, -, hx, hlen, hxl, hg⟩ := DataW.trod_struct Try.underlying30 hf
  rw [cells30] at hsz
  simp only [Prod.mk.injEq] at hx
  obtain ⟨rfl, -⟩ := hx
  match l, hsz, xs, hxl with
  | [k0, k1, k2, k3, k4, k5, k6, k7, k8, k9, k10, k11, k12, k13, k14, k15, k16, k17, k18, k19, k20], _, [y0, y1, y2, y3, y4, y5, y6, y7], _ =>
    have f0 : DataW.trod enc Try.prog w base spare held n 23 (([k0, k1, k2, k3, k4, k5, k6, k7, k8, k9, k10, k11, k12, k13, k14, k15, k16, k17, k18, k19, k20].drop 0).take (Try.prog.cellsOf 23)) = some y0 := hg 0 _ rfl
    rw [cells23] at f0
    change DataW.trod enc Try.prog w base spare held n 23 [k0, k1, k2, k3] = some y0 at f0
    have f1 : DataW.trod enc Try.prog w base spare held n 3 (([k0, k1, k2, k3, k4, k5, k6, k7, k8, k9, k10, k11, k12, k13, k14, k15, k16, k17, k18, k19, k20].drop 4).take (Try.prog.cellsOf 3)) = some y1 := hg 1 _ rfl
    rw [cells3] at f1
    change DataW.trod enc Try.prog w base spare held n 3 [k4] = some y1 at f1
    have f2 : DataW.trod enc Try.prog w base spare held n 24 (([k0, k1, k2, k3, k4, k5, k6, k7, k8, k9, k10, k11, k12, k13, k14, k15, k16, k17, k18, k19, k20].drop 5).take (Try.prog.cellsOf 24)) = some y2 := hg 2 _ rfl
    rw [cells24] at f2
    change DataW.trod enc Try.prog w base spare held n 24 [k5] = some y2 at f2
    have f3 : DataW.trod enc Try.prog w base spare held n 24 (([k0, k1, k2, k3, k4, k5, k6, k7, k8, k9, k10, k11, k12, k13, k14, k15, k16, k17, k18, k19, k20].drop 6).take (Try.prog.cellsOf 24)) = some y3 := hg 3 _ rfl
    rw [cells24] at f3
    change DataW.trod enc Try.prog w base spare held n 24 [k6] = some y3 at f3
    have f4 : DataW.trod enc Try.prog w base spare held n 26 (([k0, k1, k2, k3, k4, k5, k6, k7, k8, k9, k10, k11, k12, k13, k14, k15, k16, k17, k18, k19, k20].drop 7).take (Try.prog.cellsOf 26)) = some y4 := hg 4 _ rfl
    rw [cells26] at f4
    change DataW.trod enc Try.prog w base spare held n 26 [k7, k8] = some y4 at f4
    have f5 : DataW.trod enc Try.prog w base spare held n 26 (([k0, k1, k2, k3, k4, k5, k6, k7, k8, k9, k10, k11, k12, k13, k14, k15, k16, k17, k18, k19, k20].drop 9).take (Try.prog.cellsOf 26)) = some y5 := hg 5 _ rfl
    rw [cells26] at f5
    change DataW.trod enc Try.prog w base spare held n 26 [k9, k10] = some y5 at f5
    have f6 : DataW.trod enc Try.prog w base spare held n 28 (([k0, k1, k2, k3, k4, k5, k6, k7, k8, k9, k10, k11, k12, k13, k14, k15, k16, k17, k18, k19, k20].drop 11).take (Try.prog.cellsOf 28)) = some y6 := hg 6 _ rfl
    rw [cells28] at f6
    change DataW.trod enc Try.prog w base spare held n 28 [k11, k12, k13, k14, k15, k16, k17, k18, k19] = some y6 at f6
    have f7 : DataW.trod enc Try.prog w base spare held n 3 (([k0, k1, k2, k3, k4, k5, k6, k7, k8, k9, k10, k11, k12, k13, k14, k15, k16, k17, k18, k19, k20].drop 20).take (Try.prog.cellsOf 3)) = some y7 := hg 7 _ rfl
    rw [cells3] at f7
    change DataW.trod enc Try.prog w base spare held n 3 [k20] = some y7 at f7
    have i0 := ints_of 3 _ _ _ _ (by kernel_rfl) f0
    have i1 := ints_of 3 _ _ _ _ (by kernel_rfl) f1
    have i4 := ints_of 3 _ _ _ _ (by kernel_rfl) f4
    have i5 := ints_of 3 _ _ _ _ (by kernel_rfl) f5
    have i6 := ints_of 3 _ _ _ _ (by kernel_rfl) f6
    have i7 := ints_of 3 _ _ _ _ (by kernel_rfl) f7
    obtain ⟨A1, xs1, c1, hc1, hr1, hl1⟩ := open_row Snd.cs deSnd 4 3 deSnd_cs Try.underlying24 (by kernel_rfl) (by omega) (by kernel_rfl) f2
    obtain ⟨A2, xs2, c2, hc2, hr2, hl2⟩ := open_row Snd.cs deSnd 4 3 deSnd_cs Try.underlying24 (by kernel_rfl) (by omega) (by kernel_rfl) f3
    simp only [List.cons.injEq, and_true] at hc1 hc2
    subst hc1 hc2
    have hm1 : xs1.length ≤ 1000000000000000 := by
      rcases hl1 with rfl | ⟨es, sp, he, hel⟩
      · simp
      · rw [← hel]
        have := size_part Try.underlying30 hz (j := 2) rfl (d := y2.1) rfl
        rw [he] at this
        exact size_slice Try.underlying24 this (of_decide_eq_true (by kernel_rfl))
    have hm2 : xs2.length ≤ 1000000000000000 := by
      rcases hl2 with rfl | ⟨es, sp, he, hel⟩
      · simp
      · rw [← hel]
        have := size_part Try.underlying30 hz (j := 3) rfl (d := y3.1) rfl
        rw [he] at this
        exact size_slice Try.underlying24 this (of_decide_eq_true (by kernel_rfl))
    obtain ⟨z0, rfl, -⟩ := i0 k0 (by simp)
    obtain ⟨z1, rfl, -⟩ := i0 k1 (by simp)
    obtain ⟨z2, rfl, -⟩ := i0 k2 (by simp)
    obtain ⟨z3, rfl, -⟩ := i0 k3 (by simp)
    obtain ⟨z4, rfl, -⟩ := i1 k4 (by simp)
    obtain ⟨z7, rfl, -⟩ := i4 k7 (by simp)
    obtain ⟨z8, rfl, -⟩ := i4 k8 (by simp)
    obtain ⟨z9, rfl, -⟩ := i5 k9 (by simp)
    obtain ⟨z10, rfl, -⟩ := i5 k10 (by simp)
    obtain ⟨z11, rfl, -⟩ := i6 k11 (by simp)
    obtain ⟨z12, rfl, -⟩ := i6 k12 (by simp)
    obtain ⟨z13, rfl, -⟩ := i6 k13 (by simp)
    obtain ⟨z14, rfl, -⟩ := i6 k14 (by simp)
    obtain ⟨z15, rfl, -⟩ := i6 k15 (by simp)
    obtain ⟨z16, rfl, -⟩ := i6 k16 (by simp)
    obtain ⟨z17, rfl, -⟩ := i6 k17 (by simp)
    obtain ⟨z18, rfl, -⟩ := i6 k18 (by simp)
    obtain ⟨z19, rfl, -⟩ := i6 k19 (by simp)
    obtain ⟨z20, rfl, -⟩ := i7 k20 (by simp)
    exact ⟨⟨⟨z0, z1, z2, z3⟩, z4, xs1, xs2, ⟨z7, z8⟩, ⟨z9, z10⟩, ⟨⟨z11, z12⟩, ⟨z13, z14⟩, ⟨z15, z16⟩, ⟨z17, z18⟩, z19⟩, z20⟩, A1, A2, c1, c2, rfl, hr1, hr2, hm1, hm2⟩

end Go.Proofs.Ytnclljamcfoolaa
