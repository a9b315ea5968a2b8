/- Walks of package meter: all truths of an ear without readings, collected. -/
import Derived.Test.YtnclljamcfoolaaTruths
namespace Go.Proofs.Ytnclljamcfoolaa
open Go.RowKit Go.Shelf
attribute [local go_sem] Oper.semAt_some
set_option linter.unusedVariables false

structure Fw (e : Ear) (c1 : Nat) (A2 : Option Addr) (n2 c2 : Nat) (be bl b o : Nat) (W : World) : Prop where
  ear : ∀ j, W.cell? ⟨be, j, none⟩ = #[Value.int IntKind.i64 e.slack, Value.slice (some ⟨b, o, none⟩) e.tones.length c1, Value.slice A2 n2 c2][j]?
  lb : W.cell? ⟨bl, 0, none⟩ = some (.slice none 0 0)
  row : ∀ i (h : i < e.tones.length), W.cell? ⟨b, o + i * 2, none⟩ = some (.int .i64 e.tones[i].mn) ∧ W.cell? ⟨b, o + i * 2 + 1, none⟩ = some (.int .i64 e.tones[i].mx)
  lts : be < W.heap.size ∧ bl < W.heap.size ∧ b < W.heap.size
theorem Fw.below {e : Ear} {c1 : Nat} {A2 : Option Addr} {n2 c2 be bl b o : Nat} {w W : World} (h : Fw e c1 A2 n2 c2 be bl b o w) (hB : Below w.heap.size w W) : Fw e c1 A2 n2 c2 be bl b o W := by
  obtain ⟨l1, l2, l3⟩ := h.lts
  have hc := CB.of hB
  have hz := hB.size
  exact ⟨fun j => (hc.1 _ _ l1).trans (h.ear j), (hc.1 _ _ l2).trans h.lb, fun i hi => ⟨(hc.1 _ _ l3).trans (h.row i hi).1, (hc.1 _ _ l3).trans (h.row i hi).2⟩, by omega, by omega, by omega⟩
def allTruths (ok : T3 → Bool) (e : Ear) : List T3 := truthsFrom ok e.tones 0 ⟨0, 0, 0⟩

set_option maxRecDepth 100000 in
set_option maxHeartbeats 2000000 in
theorem truths_seq (F : Fence) (n : Nat) (h104 : F.fn 104) (h105 : F.fn 105) (hro : F.round = none) (hd : F.depth = none) (e : Ear) (c1 : Nat) (A2 : Option Addr) (n2 c2 be bl b o : Nat)
    (hlen : e.tones.length ≤ 3) (hbd : ∀ x ∈ e.tones, 1 ≤ x.mn ∧ x.mn ≤ 100000 ∧ 1 ≤ x.mx ∧ x.mx ≤ 100000) (w : World) (hF : Fw e c1 A2 n2 c2 be bl b o w) :
    SeqO F n Try.prog 104 #[.pointer (some ⟨be, 0, none⟩), .pointer (some ⟨bl, 0, none⟩)] T3.v (fun xs => xs = allTruths (fun _ => true) e) (allTruths (fun _ => true) e).length w := by
  intro l own J W ho hB hown hJs hWf hY hJ0
  have hFW := hF.below hB
  have hdd : ∀ k : Nat, (F.depth.isSome = true → 1 ≤ k) := fun k h => by rw [hd] at h; cases h
  have hY' : ∀ m pre x W1, J pre W1 → pre.length < (allTruths (fun _ => true) e).length → YieldAt F m Try.prog l #[T3.v x] W1 fun ed W' => ed = .returned (.bool true) ∧ J (pre ++ [x]) W' ∧ BodyStep own W1 W' :=
    fun m pre x W1 hj hl => YieldAt_anyDepth hd m (hY pre x W1 hj hl)
  have nos : ∀ k, k < w.heap.size → ¬ own W k := fun k hk h => by have := hown k h; omega
  refine callsIn_of_wp Try.func104 rfl h104 ?_ hro
  simp only [Try.ntmps104, List.size_toArray, List.length_cons, List.length_nil, Nat.reduceAdd, Nat.reduceSub, Array.replicate_succ, Array.replicate_zero, List.push_toArray, List.append_toArray, List.nil_append, List.cons_append]
  gi_wp2
  generalize hV : (W.alloc _).alloc _ = V
  generalize h2_ : W.heap.size + 1 = g2
  generalize h1_ : W.heap.size = g1
  obtain ⟨hB0_, Hg1, Hg2, kg1, kg2, fg1, fg2, lg1, lg2, bg1, bg2, ng12, ng21⟩ := gen2 W _ _ _ _ hV h2_ h1_
  have hit : IterStep own W.heap.size W V := by rw [← hV]; exact ⟨rfl, rfl, rfl, by simp; omega, fun k hk _ => (Below.heap_alloc _ _ k (by simp; omega)).trans (Below.heap_alloc _ _ k hk)⟩
  have hS : BodyStep own W V := BodyStep.of_same ho (hWf _ _ hJ0) hB0_.size (fun k hk => hB0_.block k hk)
  have hFV := hFW.below hB0_
  have n1 : ¬ own V g1 := fun h => by have := (IterStep.own ho (hWf _ _ hJ0) hit g1).1 h; have := hWf _ _ hJ0 _ this; omega
  have n2' : ¬ own V g2 := fun h => by have := (IterStep.own ho (hWf _ _ hJ0) hit g2).1 h; have := hWf _ _ hJ0 _ this; omega
  have n3 : ∀ k, k < w.heap.size → ¬ own V k := fun k hk h => nos k hk ((IterStep.own ho (hWf _ _ hJ0) hit k).1 h)
  have hFx : Fx own e c1 A2 n2 c2 be bl g1 g2 l b o V := by
    obtain ⟨l1, l2, l3⟩ := hFV.lts
    exact ⟨hFV.ear, hFV.lb, kg1 0, by have := kg2 0; subst h1_ h2_; exact this, hFV.row, ⟨l1, l2, lg1, lg2, l3⟩, ⟨n3 _ hF.lts.1, n3 _ hF.lts.2.1, n1, n2', n3 _ hF.lts.2.2⟩⟩
  refine (next_in F h105 hro hd own J W.heap.size (allTruths (fun _ => true) e).length ho hWf hJs e c1 A2 n2 c2 be bl g1 g2 l b o hlen hbd hY' e.tones 0 (by simp) (by simp) (n - 1) ⟨0, 0, 0⟩ [] V hFx (hJs _ _ _ hJ0 hit) (by simp [allTruths]) hB0_.size).mono ?_
  rintro ed W3 ⟨rfl, hJ3, hs3⟩
  gi_wp2
  go_end0
  exact ⟨⟨_, rfl⟩, _, rfl, by simpa [allTruths] using hJ3⟩

end Go.Proofs.Ytnclljamcfoolaa
