/- Walk of musettetop.job: a job whose pitch is what an ear tells. Walk of musettetop.heardAwake: it returns true. Walks of slices.Clone at ranges and at readings. append onto a row of the call's own, of a row that came in (nil, empty or not). A drawn region by what is so of the operations that have come up, in whatever order they came. -/
import Derived.Test.YtnclljamcfoolaaHd10
import Derived.Test.YtnclljamcfoolaaHd5
import Derived.Laws.AppendOwnNone
namespace Go.Proofs.Ytnclljamcfoolaa
open Go.RowKit Go.Shelf Go.Maps
set_option linter.unusedVariables false
set_option linter.unusedSimpArgs false

theorem size51j : (Try.prog.info? 51).map (·.size) = some 18 := by kernel_rfl
theorem rngOf_bd {slack : Int} {x : Rg} {ls : List Ct} (hbx : 1 ≤ x.mn ∧ x.mn ≤ 100000 ∧ 1 ≤ x.mx ∧ x.mx ≤ 100000) {t : T3} {kl : List T3} (h : keptC slack x ls = t :: kl) : 1 ≤ (rngOf (t :: kl) t).mn ∧ (rngOf (t :: kl) t).mx ≤ 100000 := by
  have hm : ∀ u ∈ t :: kl, 1 ≤ tnOf u ∧ tnOf u ≤ 100000 := fun u hu => by
    rw [← h] at hu
    obtain ⟨n, h1, -, rfl⟩ := (mem_keptC _ _ _ _).1 hu
    show 1 ≤ n ∧ n ≤ 100000
    omega
  have h0 := hm t List.mem_cons_self
  exact ⟨le_mnOf tnOf _ _ _ h0.1 (fun u hu => (hm u hu).1), mxOf_le tnOf _ _ _ h0.2 (fun u hu => (hm u hu).2)⟩
/-- the pitch of a job that an ear tells -/
def lessD (x : Rg) (d : Int) : Rg := ⟨x.mn - d, x.mx - d⟩

set_option maxRecDepth 100000 in
set_option maxHeartbeats 4000000 in
theorem job_calls (j : Job) (A : Option Addr) (c : Nat) (due : Int) (hd : 1 ≤ due ∧ due ≤ 100000) (slack : Int) (x : Rg) (ls : List Ct) (hls : ∀ r ∈ ls, r.Ok) (hl6 : ls.length ≤ 6) (he : earErr (earC slack x ls) = 0) (b o c1 : Nat) (A2 : Option Addr) (c2 : Nat) (w : World) (h1 : Row Rg.cs 2 w (some ⟨b, o, none⟩) [x]) (h2 : Row Rd.cs 6 w A2 (ls.map Ct.rd)) (t : T3) (kl : List T3) (hn : keptC slack x ls = t :: kl) :
    Calls Try.prog 15 #[j.v A c, .agg #[.int .i64 slack, .slice (some ⟨b, o, none⟩) 1 c1, .slice A2 ls.length c2], .int .i64 due] w fun ed w' => ed = .returned (.tuple #[(j.withP (lessD (rngOf (t :: kl) t) due)).v A c, .bool true]) ∧ Below w.heap.size w w' := by
  have hT := Lib.hid (fun w h1 h2 => tonesR_cons slack x ls hls hl6 he b o c1 A2 c2 w h1 h2 t kl hn)
  have hbd := rngOf_bd (earC_bd he).2.1 hn
  have hord := rngOf_ord (t :: kl) t
  generalize rngOf (t :: kl) t = R at *
  have e1 : IntKind.i64.wrap (R.mn - due) = R.mn - due := IntWalk.i64_in _ (by omega)
  have e2 : IntKind.i64.wrap (R.mx - due) = R.mx - due := IntWalk.i64_in _ (by omega)
  have HE : Hid (j.withP (lessD R due) = ⟨⟨⟨R.mn - due, R.mx - due⟩, j.t.tip, j.t.root⟩, j.f, j.shifts, j.within, j.meter⟩) := Lib.hid rfl
  clear hbd hord hn he hls
  go_enter Try.func15, Try.ntmps15
  go_upto_region 1 with (fail)
  generalize hW : ((w.alloc _).alloc _).alloc _ = W
  generalize h3_ : w.heap.size + 1 + 1 = g3
  generalize h2_ : w.heap.size + 1 = g2
  generalize h1_ : w.heap.size = g1
  obtain ⟨hB0_, Hg1, Hg2, Hg3, kg1, kg2, kg3, fg1, fg2, fg3, lg1, lg2, lg3, bg1, bg2, bg3, ng12, ng13, ng21, ng23, ng31, ng32⟩ := gen3 w _ _ _ _ _ _ hW h3_ h2_ h1_
  clear hW h1_ h2_ h3_
  have H0W := Lib.hid hB0_
  clear hB0_
  have HHg1 := Lib.hid Hg1
  have HHg2 := Lib.hid Hg2
  have HHg3 := Lib.hid Hg3
  clear Hg1 Hg2 Hg3
  have HB := Lib.hid (Below.refl W.heap.size W)
  have HR1 := Lib.hid (h1.below H0W.out)
  have HR2 := Lib.hid (h2.below H0W.out)
  clear h1 h2
  go_upto_region 4 with (first
    | ((with_reducible refine ld_gate 41 rfl ?_); refine wpList_load_row rfl 41 _ rfl g2 rfl 41 _ (0, 0) _ ((HB.out.block _ lg2).trans HHg2.out) Try.underlying41 rfl size41 ?_)
    | (go_at_call 25; refine (hT.out _ (HR1.out.below HB.out) (HR2.out.below HB.out)).mono ?_; rintro e_ V ⟨g, c9, rfl, HT, hb_⟩; have HB_ := Lib.hid (bl_then2 (by (repeat (with_reducible first | exact HB.out | apply bl_alloc2 | apply bl_drew2 | apply bl_drewN2))) hb_); clear HB hb_; (try clear hq); have HB := HB_; clear HB_; have hq := CB.of HB.out))
  have HRT := Lib.hid HT.out.1
  obtain ⟨b9, o9, hA9, hlb, k0, k1⟩ := HRT.out.rg 0 (by simp)
  obtain ⟨rfl, rfl⟩ : g = b9 ∧ 0 = o9 := by simpa using hA9
  simp only [Nat.zero_mul, Nat.add_zero, Nat.zero_add, List.getElem_cons_zero] at k0 k1
  have G1 := Lib.hid ((HB.out.block _ lg1).trans HHg1.out)
  have G3 := Lib.hid ((HB.out.block _ lg3).trans HHg3.out)
  have HWW := Lib.hid (bl_then H0W.out HB.out)
  clear hA9 HT HRT HB hq kg1 kg2 kg3 fg1 fg2 fg3
  refine wp_region_tail (S := fun w' => w'.cell? ⟨g, 0, none⟩ = some (.int .i64 R.mn) ∧ w'.cell? ⟨g, 1, none⟩ = some (.int .i64 R.mx)) 15 _ _ (by kernel_rfl) rfl rfl (by decide) (by kernel_rfl) ⟨k0, k1⟩ (fun hHeld => ?_)
  simp only [List.take_succ_cons, List.take_zero, List.drop_succ_cons, List.drop_zero]
  refine wpAnyH_take (i := 0) (v := ?_) rfl (by kernel_rfl) (by kernel_rfl) (by kernel_rfl) (fun _ _ _ h => h) (Or.inl ⟨by rfl, ?_⟩) (by assumption) ?_; rotate_left 1; (focus ((intro w_ hS_; (try dsimp only at hS_); go_simp; first | done | with_reducible rfl))); simp only [Act.put, stillOf, List.set_cons_succ, List.set_cons_zero, List.setIfInBounds_toArray, List.getElem_toArray, List.getElem_cons_succ, List.getElem_cons_zero]
  refine wpAnyH_take (i := 1) (v := ?_) rfl (by kernel_rfl) (by kernel_rfl) (by kernel_rfl) (fun _ _ _ h => h) (Or.inl ⟨by rfl, ?_⟩) (by assumption) ?_; rotate_left 1; (focus ((intro w_ hS_; (try dsimp only at hS_); go_simp; first | done | with_reducible rfl))); simp only [Act.put, stillOf, List.set_cons_succ, List.set_cons_zero, List.setIfInBounds_toArray, List.getElem_toArray, List.getElem_cons_succ, List.getElem_cons_zero]
  refine wpAnyH_take (i := 2) (v := ?_) rfl (by kernel_rfl) (by kernel_rfl) (by kernel_rfl) (fun _ _ _ h => h) (Or.inl ⟨by rfl, ?_⟩) (by assumption) ?_; rotate_left 1; (focus ((intro w_ hS_; (try dsimp only at hS_); go_simp; first | done | with_reducible rfl))); simp only [Act.put, stillOf, List.set_cons_succ, List.set_cons_zero, List.setIfInBounds_toArray, List.getElem_toArray, List.getElem_cons_succ, List.getElem_cons_zero]
  refine wpAnyH_take (i := 3) (v := ?_) rfl (by kernel_rfl) (by kernel_rfl) (by kernel_rfl) (fun _ _ _ h => h) (Or.inl ⟨by rfl, ?_⟩) (by assumption) ?_; rotate_left 1; (focus ((intro w_ hS_; (try dsimp only at hS_); go_simp; first | done | with_reducible rfl))); simp only [Act.put, stillOf, List.set_cons_succ, List.set_cons_zero, List.setIfInBounds_toArray, List.getElem_toArray, List.getElem_cons_succ, List.getElem_cons_zero]
  refine wpAnyH_take (i := 4) (v := ?_) rfl (by kernel_rfl) (by kernel_rfl) (by kernel_rfl) (fun _ _ _ h => h) (Or.inl ⟨by rfl, ?_⟩) (by assumption) ?_; rotate_left 1; (focus ((intro w_ hS_; (try dsimp only at hS_); go_simp; first | done | with_reducible rfl))); simp only [Act.put, stillOf, List.set_cons_succ, List.set_cons_zero, List.setIfInBounds_toArray, List.getElem_toArray, List.getElem_cons_succ, List.getElem_cons_zero]
  refine wpAnyH_take (i := 5) (v := ?_) rfl (by kernel_rfl) (by kernel_rfl) (by kernel_rfl) (fun _ _ _ h => h) (Or.inl ⟨by rfl, ?_⟩) (by assumption) ?_; rotate_left 1; (focus ((intro w_ hS_; (try dsimp only at hS_); go_simp; first | done | with_reducible rfl))); simp only [Act.put, stillOf, List.set_cons_succ, List.set_cons_zero, List.setIfInBounds_toArray, List.getElem_toArray, List.getElem_cons_succ, List.getElem_cons_zero]
  refine wpAnyH_take (i := 6) (v := ?_) rfl (by kernel_rfl) (by kernel_rfl) (by kernel_rfl) (fun _ _ _ h => h) (Or.inl ⟨by rfl, ?_⟩) (by assumption) ?_; rotate_left 1; (focus ((intro w_ hS_; (try dsimp only at hS_); go_simp; first | done | with_reducible rfl))); simp only [Act.put, stillOf, List.set_cons_succ, List.set_cons_zero, List.setIfInBounds_toArray, List.getElem_toArray, List.getElem_cons_succ, List.getElem_cons_zero]
  refine wpAnyH_take (i := 7) (v := ?_) rfl (by kernel_rfl) (by kernel_rfl) (by kernel_rfl) (fun _ _ _ h => h) (Or.inl ⟨by rfl, ?_⟩) (by assumption) ?_; rotate_left 1; (focus ((intro w_ hS_; (try dsimp only at hS_); go_simp; first | done | with_reducible rfl))); simp only [Act.put, stillOf, List.set_cons_succ, List.set_cons_zero, List.setIfInBounds_toArray, List.getElem_toArray, List.getElem_cons_succ, List.getElem_cons_zero]
  refine wpAnyH_take (i := 8) (v := ?_) rfl (by kernel_rfl) (by kernel_rfl) (by kernel_rfl) (fun _ _ _ h => h) (Or.inl ⟨by rfl, ?_⟩) (by assumption) ?_; rotate_left 1; (focus ((intro w_ hS_; (try dsimp only at hS_); go_simp; first | done | with_reducible rfl))); simp only [Act.put, stillOf, List.set_cons_succ, List.set_cons_zero, List.setIfInBounds_toArray, List.getElem_toArray, List.getElem_cons_succ, List.getElem_cons_zero]
  refine wpAnyH_take (i := 9) (v := ?_) rfl (by kernel_rfl) (by kernel_rfl) (by kernel_rfl) (fun _ _ _ h => h) (Or.inl ⟨by rfl, ?_⟩) (by assumption) ?_; rotate_left 1; (focus ((intro w_ hS_; (try dsimp only at hS_); go_simp; first | done | with_reducible rfl))); simp only [Act.put, stillOf, List.set_cons_succ, List.set_cons_zero, List.setIfInBounds_toArray, List.getElem_toArray, List.getElem_cons_succ, List.getElem_cons_zero]
  refine wpAnyH_take (i := 10) (v := ?_) rfl (by kernel_rfl) (by kernel_rfl) (by kernel_rfl) (fun _ _ _ h => h) (Or.inl ⟨by rfl, ?_⟩) (by assumption) ?_; rotate_left 1; (focus ((intro w_ hS_; (try dsimp only at hS_); go_simp; first | done | with_reducible rfl))); simp only [Act.put, stillOf, List.set_cons_succ, List.set_cons_zero, List.setIfInBounds_toArray, List.getElem_toArray, List.getElem_cons_succ, List.getElem_cons_zero]
  refine wpAnyH_take (i := 11) (v := ?_) rfl (by kernel_rfl) (by kernel_rfl) (by kernel_rfl) (fun _ _ _ h => h) (Or.inl ⟨by rfl, ?_⟩) (by assumption) ?_; rotate_left 1; (focus ((intro w_ hS_; (try dsimp only at hS_); go_simp; first | done | with_reducible rfl))); simp only [Act.put, stillOf, List.set_cons_succ, List.set_cons_zero, List.setIfInBounds_toArray, List.getElem_toArray, List.getElem_cons_succ, List.getElem_cons_zero]
  refine wpAnyH_take (i := 12) (v := ?_) rfl (by kernel_rfl) (by kernel_rfl) (by kernel_rfl) (fun _ _ _ h => h) (Or.inl ⟨by rfl, ?_⟩) (by assumption) ?_; rotate_left 1; (focus ((intro w_ hS_; (try dsimp only at hS_); go_simp; first | done | with_reducible rfl))); simp only [Act.put, stillOf, List.set_cons_succ, List.set_cons_zero, List.setIfInBounds_toArray, List.getElem_toArray, List.getElem_cons_succ, List.getElem_cons_zero]
  refine wpAnyH_take (i := 13) (v := ?_) rfl (by kernel_rfl) (by kernel_rfl) (by kernel_rfl) (fun _ _ _ h => h) (Or.inl ⟨by rfl, ?_⟩) (by assumption) ?_; rotate_left 1; (focus ((intro w_ hS_; (try dsimp only at hS_); go_simp; first | done | with_reducible rfl))); simp only [Act.put, stillOf, List.set_cons_succ, List.set_cons_zero, List.setIfInBounds_toArray, List.getElem_toArray, List.getElem_cons_succ, List.getElem_cons_zero]
  refine wpAnyH_take (i := 14) (v := ?_) rfl (by kernel_rfl) (by kernel_rfl) (by kernel_rfl) (fun _ _ _ h => h) (Or.inl ⟨by rfl, ?_⟩) (by assumption) ?_; rotate_left 1; (focus ((intro w_ hS_; (try dsimp only at hS_); go_simp; first | done | with_reducible rfl))); simp only [Act.put, stillOf, List.set_cons_succ, List.set_cons_zero, List.setIfInBounds_toArray, List.getElem_toArray, List.getElem_cons_succ, List.getElem_cons_zero]
  refine wpAnyH_done (by kernel_rfl) ?_ _
  clear hHeld k0 k1
  unfold Tailed
  dsimp only
  refine wpList_store_blk rfl 26 _ _ rfl g1 0 [.int .i64 (R.mn - due), .int .i64 (R.mx - due)] rfl rfl 51 _ #[Value.int IntKind.i64 (j.withP (lessD R due)).t.pitch.mn, Value.int IntKind.i64 (j.withP (lessD R due)).t.pitch.mx, Value.int IntKind.i64 (j.withP (lessD R due)).t.tip.mn, Value.int IntKind.i64 (j.withP (lessD R due)).t.tip.mx, Value.int IntKind.i64 (j.withP (lessD R due)).t.root.mn, Value.int IntKind.i64 (j.withP (lessD R due)).t.root.mx, Value.int IntKind.i64 (j.withP (lessD R due)).f.up.mn, Value.int IntKind.i64 (j.withP (lessD R due)).f.up.mx, Value.int IntKind.i64 (j.withP (lessD R due)).f.down.mn, Value.int IntKind.i64 (j.withP (lessD R due)).f.down.mx, Value.int IntKind.i64 (j.withP (lessD R due)).f.tipw.mn, Value.int IntKind.i64 (j.withP (lessD R due)).f.tipw.mx, Value.int IntKind.i64 (j.withP (lessD R due)).f.rootw.mn, Value.int IntKind.i64 (j.withP (lessD R due)).f.rootw.mx, Value.int IntKind.i64 (j.withP (lessD R due)).f.least, Value.slice A (j.withP (lessD R due)).shifts.length c, Value.int IntKind.i64 (j.withP (lessD R due)).within, Value.int IntKind.i64 (j.withP (lessD R due)).meter] G1.out size26m (by simp) (by simp [Value.oneCell']) (by simp [Job.withP, lessD]) (fun w7 hg7 hw7 => ?_)
  have n13 : g3 ≠ g1 := fun h => by rw [h] at ng31; simp at ng31
  have G37 := (hw7.block _ n13).trans G3.out
  have HW7 := Lib.hid (hw7.below (bl_drew HWW.out) bg1)
  clear HWW
  go_wp2_with (first
    | ((with_reducible refine ld_gate 51 rfl ?_); refine wpList_load_row rfl 51 _ rfl g1 rfl 51 _ (0, 0) _ hg7 Try.underlying51 rfl size51j ?_)
    | ((with_reducible refine st_gate 51 rfl ?_); refine wpList_store_row rfl 51 _ _ rfl g3 _ rfl rfl 51 _ G37 size51j (by simp) (by simp [Value.oneCell']) ?_))
  exact ret_row_tmp rfl g3 51 _ _ rfl (setRow_heap G37) Try.underlying51 rfl size51j rfl ⟨rfl, bl_setRow HW7.out bg3 _⟩
end Go.Proofs.Ytnclljamcfoolaa
namespace Go.Proofs.Ytnclljamcfoolaa
open Go.RowKit Go.Shelf Go.Maps
set_option linter.unusedVariables false
set_option linter.unusedSimpArgs false

def awJob : Job := ⟨⟨⟨-1, 1⟩, ⟨9, 9⟩, ⟨9, 9⟩⟩, ⟨⟨0, 0⟩, ⟨0, 0⟩, ⟨0, 0⟩, ⟨0, 0⟩, 0⟩, [], 1, 0⟩
def awCt : Ct := ⟨10, ⟨4400, 4400⟩⟩
def awKl : List T3 := [⟨44001, 0, 0⟩, ⟨44002, 0, 0⟩, ⟨44003, 0, 0⟩, ⟨44004, 0, 0⟩, ⟨44005, 0, 0⟩, ⟨44006, 0, 0⟩, ⟨44007, 0, 0⟩, ⟨44008, 0, 0⟩, ⟨44009, 0, 0⟩]
theorem awPasses_calls (w : World) :
    Calls Try.prog 18 #[awJob.v none 0] w fun e w' => e = .returned (.tuple #[.int .i64 1, .int .i64 0]) ∧ Below w.heap.size w w' := by
  have h := PassesG_calls awJob none 0 w (.inl rfl) (by decide) (by decide)
  rw [show passR awJob awJob.t.pitch = 1 by decide] at h
  exact h
theorem awTones_calls (w : World) (b b2 : Nat) (c1 c2 : Nat) (h1 : Row Rg.cs 2 w (some ⟨b, 0, none⟩) [⟨44000, 44010⟩]) (h2 : Row Rd.cs 6 w (some ⟨b2, 0, none⟩) [awCt.rd]) :
    Calls Try.prog 25 #[.agg #[.int .i64 0, .slice (some ⟨b, 0, none⟩) 1 c1, .slice (some ⟨b2, 0, none⟩) 1 c2]] w fun ed w' => ∃ g c, ed = .returned (.tuple #[.slice (some ⟨g, 0, none⟩) 1 c, .int .i64 0]) ∧ Hid (Row Rg.cs 2 w' (some ⟨g, 0, none⟩) [⟨44000, 44009⟩] ∧ w.heap.size ≤ g) ∧ Below w.heap.size w w' := by
  have h := tonesR_cons 0 ⟨44000, 44010⟩ [awCt] (by intro r hr; simp at hr; subst hr; unfold Ct.Ok awCt; decide) (by decide) (by decide) b 0 c1 (some ⟨b2, 0, none⟩) c2 w h1 h2 ⟨44000, 0, 0⟩ awKl (by decide)
  rw [show rngOf (⟨44000, 0, 0⟩ :: awKl) ⟨44000, 0, 0⟩ = ⟨44000, 44009⟩ by decide] at h
  exact h
set_option maxRecDepth 100000 in
set_option maxHeartbeats 1000000 in
theorem heardAwake_calls (w : World) :
    Calls Try.prog 12 #[] w fun e w' => e = .returned (.bool true) ∧ Below w.heap.size w w' := by
  go_enter Try.func12, Try.ntmps12
  go_upto_region 2 with ((with_reducible refine st_gate 51 rfl ?_); refine wpList_store_row rfl 51 _ _ rfl w.heap.size _ rfl rfl 51 _ (heap_alloc_at _ _ _ (by simp)) size51j (by simp) (by simp [Value.oneCell']) ?_)
  obtain ⟨g1, hg1⟩ : ∃ g1, w.heap.size = g1 := ⟨_, rfl⟩
  generalize hU : (w.alloc _).setRow w.heap.size _ = U
  have HG := Lib.hid (hU ▸ setRow_heap (heap_alloc_at w _ w.heap.size rfl) : U.heap[w.heap.size]? = _)
  have HU := Lib.hid (show Below w.heap.size w U from hU ▸ bl_setRow (bl_alloc (Below.refl _ _) _) (Nat.le_refl _) _)
  clear hU
  have LU : w.heap.size < U.heap.size := (Array.getElem?_eq_some_iff.1 HG.out).1
  rw [hg1] at HG LU ⊢
  clear hg1
  have HB := Lib.hid (Below.refl U.heap.size U)
  have hP := Lib.hid awPasses_calls
  unfold awJob Job.v at hP
  have hT := Lib.hid awTones_calls
  go_upto_region 3 with (first
    | ((with_reducible refine ld_gate 51 rfl ?_); refine wpList_load_row rfl 51 _ rfl g1 rfl 51 _ (0, 0) _ ((HB.out.block _ LU).trans HG.out) Try.underlying51 rfl size51j ?_)
    | (go_at_call 18; refine (hP.out _).mono ?_; rintro e_ w1 ⟨rfl, hb_⟩; have HB_ := Lib.hid (bl_then2 (by (repeat (with_reducible first | exact HB.out | apply bl_alloc2 | apply bl_drew2 | apply bl_drewN2))) hb_); clear HB hb_; (try clear hq); have HB := HB_; clear HB_; have hq := CB.of HB.out))
  have HU1 := Lib.hid (bl_then HU.out HB.out)
  clear HB hq HU hP HG
  have HB := Lib.hid (Below.refl w1.heap.size w1)
  go_wp2_with fail
  generalize hW : (w1.alloc _).alloc _ = X
  generalize h2_ : w1.heap.size + 1 = x2
  generalize h1_ : w1.heap.size = x1
  obtain ⟨hB0_, Hx1, Hx2, kx1, kx2, fx1, fx2, lx1, lx2, bx1, bx2, nx12, nx21⟩ := gen2 w1 _ _ _ _ hW h2_ h1_
  clear hW h1_ h2_
  have H0X := Lib.hid hB0_
  clear hB0_
  have HHx1 := Lib.hid Hx1
  have HHx2 := Lib.hid Hx2
  clear Hx1 Hx2
  refine (hT.out X x1 x2 1 1 (row_single (enc := Rg.cs) (⟨44000, 44010⟩ : Rg) rfl kx1) (row_single (enc := Rd.cs) awCt.rd rfl kx2)).mono ?_
  rintro e_ w2 ⟨g, c, rfl, HR, hb_⟩
  have HW := Lib.hid (bl_then HU1.out (bl_then H0X.out hb_))
  clear hb_ HB kx1 kx2 fx1 fx2 hT
  go_wp2_with fail
  have hS := same_calls [⟨44000, 44009⟩] [⟨44000, 44009⟩] (some ⟨g, 0, none⟩) (some ⟨w2.heap.size, 0, none⟩) c 1 (by decide) (w2.alloc (.cells #[.int .i64 44000, .int .i64 44009] 26)) (HR.out.1.below (bl_alloc (Below.refl _ _) _)) (row_single (enc := Rg.cs) _ rfl fun j => cell_of_row _ _ j _ _ _ (heap_new w2 _))
  rw [show sameAt [⟨44000, 44009⟩] [⟨44000, 44009⟩] (List.length [(⟨44000, 44009⟩ : Rg)]) = true from by decide] at hS
  refine hS.mono ?_
  rintro e_ w3 ⟨rfl, hb_⟩
  have HW3 := Lib.hid (bl_then (bl_alloc HW.out _) hb_)
  clear hb_ HW hS
  go_wp2_with fail
  go_ret
  exact ⟨rfl, HW3.out⟩
end Go.Proofs.Ytnclljamcfoolaa
namespace Go.Proofs.Ytnclljamcfoolaa
open Go.RowKit Go.Shelf Go.Maps
set_option linter.unusedVariables false
set_option linter.unusedSimpArgs false

theorem info26c : (Try.prog.info? 26).map (fun i => (i.zero, i.size, i.bytes)) = some (some (.agg #[.int .i64 0, .int .i64 0]), 2, 16) := by kernel_rfl
theorem info53c : (Try.prog.info? 53).map (fun i => (i.zero, i.size, i.bytes)) = some (some (.agg #[.int .i64 0, .int .i64 0, .int .i64 0, .int .i64 0, .int .i64 0, .int .i64 0]), 6, 48) := by kernel_rfl
/-- the cells of a row, one after the other -/
theorem row_news {α : Type} {enc : α → List Value} {sz : Nat} (hsz : ∀ x, (enc x).length = sz) {w : World} {ad : Addr} {xs : List α} (h : Row enc sz w (some ad) xs) :
    ∀ j u, (flat enc xs)[j]? = some u → w.cell? (ad.add j) = some u := by
  intro j u hj
  by_cases hx : xs = []
  · subst hx; simp [flat] at hj
  obtain ⟨b, o, rfl⟩ : ∃ b o, ad = ⟨b, o, none⟩ := by
    rcases h with h | ⟨b, o, hA, -⟩
    · exact absurd h hx
    · exact ⟨b, o, by simpa using hA⟩
  have hadd : (⟨b, o, none⟩ : Addr).add j = ⟨b, o + j, none⟩ := by simp [Addr.add]
  rw [hadd]
  rcases h with rfl | ⟨b', o', hA, h⟩
  · simp [flat] at hj
  obtain ⟨rfl, rfl⟩ : b = b' ∧ o = o' := by simpa using hA
  have hlen : (flat enc xs).length = xs.length * sz := by
    clear hj h hA hx
    induction xs with
    | nil => simp [flat]
    | cons x xs ih => simp only [flat, List.map_cons, List.flatten_cons, List.length_append, List.length_cons, hsz] at ih ⊢; rw [ih, Nat.succ_mul]; omega
  have hjl : j < xs.length * sz := by rw [← hlen]; exact (List.getElem?_eq_some_iff.1 hj).1
  have hs0 : 0 < sz := by
    rcases Nat.eq_zero_or_pos sz with h0 | h0
    · rw [h0, Nat.mul_zero] at hjl; omega
    · exact h0
  have hi : j / sz < xs.length := Nat.div_lt_of_lt_mul (by rw [Nat.mul_comm]; exact hjl)
  have hf := flat_at enc sz hsz xs (j / sz) (j % sz) xs[j / sz] (List.getElem?_eq_getElem hi) (Nat.mod_lt _ hs0)
  have hd : j / sz * sz + j % sz = j := by rw [Nat.mul_comm]; exact Nat.div_add_mod j sz
  rw [hd, hj] at hf
  have := h (j / sz) xs[j / sz] (List.getElem?_eq_getElem hi) (j % sz) u hf.symm
  rwa [Nat.add_assoc, hd] at this
theorem flat_len {α : Type} {enc : α → List Value} {sz : Nat} (hsz : ∀ x, (enc x).length = sz) (xs : List α) : (flat enc xs).length = xs.length * sz := by
  induction xs with
  | nil => simp [flat]
  | cons x xs ih => simp only [flat, List.map_cons, List.flatten_cons, List.length_append, List.length_cons, hsz] at ih ⊢; rw [ih, Nat.succ_mul]; omega
theorem flat_one {α : Type} {enc : α → List Value} (h1 : ∀ x, ∀ u ∈ enc x, u.oneCell' = true) (xs : List α) : ∀ u ∈ flat enc xs, u.oneCell' = true := by
  intro u hu
  obtain ⟨l, hl, hul⟩ := List.mem_flatten.1 hu
  obtain ⟨x, -, rfl⟩ := List.mem_map.1 hl
  exact h1 x u hul

theorem eql34_nil (w : World) : (binOp BinOp.eql 34 (.slice none 0 0) (.slice none 0 0)).run Try.prog w = .ok (.bool true) w := by kernel_rfl
theorem eql34_some (ad : Addr) (n c : Nat) (w : World) : (binOp BinOp.eql 34 (.slice (some ad) n c) (.slice none 0 0)).run Try.prog w = .ok (.bool false) w := by kernel_rfl
set_option maxRecDepth 100000 in
set_option maxHeartbeats 1000000 in
theorem clone51_calls (xs : List Rg) (hl : xs.length ≤ 1000) (A : Option Addr) (c : Nat) (hA : (A = none ∧ c = 0 ∧ xs = []) ∨ ∃ ad, A = some ad) (w : World) (h : Row Rg.cs 2 w A xs) :
    Calls Try.prog 51 #[.slice A xs.length c] w fun e w' => ∃ v, e = .returned v ∧ Hid (w'.ownsRow w.heap.size 26 2 v xs.length (flat Rg.cs xs)) ∧ Below w.heap.size w w' := by
  obtain ⟨i0, hi, hz0, hz1, hz2⟩ := info_parts info26c
  have HR := Lib.hid h
  clear h
  rcases hA with ⟨rfl, rfl, rfl⟩ | ⟨ad, rfl⟩
  · have he := eql34_nil
    go_enter Try.func51, Try.ntmps51
    go_wp2_with fail
    go_ret
    exact ⟨_, rfl, Lib.hid (own_nil _ _ _ _), Below.refl _ _⟩
  · have he := eql34_some ad xs.length c
    go_enter Try.func51, Try.ntmps51
    go_wp2_with (first
      | (at_builtin; refine wpList_append_own_at _ rfl _ _ 34 rfl w.heap.size 26 i0 _ 2 16 Try.underlying34 hi hz0 hz1 hz2 rfl (by decide) (.slice (some ⟨w.heap.size, 0, none⟩) 0 0) 0 [] rfl ?a0 ad xs.length c (flat Rg.cs xs) rfl (flat_len (enc := Rg.cs) (fun _ => rfl) xs) (row_news (enc := Rg.cs) (xs := xs) (fun _ => rfl) (HR.out.below (bl_alloc (Below.refl _ _) _))) ?a1 ?a2 ?a3 ?a4 ?_
         (case a0 => exact ⟨by simp, .inr ⟨w.heap.size, 0, #[], rfl, Nat.le_refl _, heap_alloc_new w _, by omega, by unfold maxLen; omega, rfl, by simp⟩⟩)
         (case a1 => exact flat_one (by intro x u hu; simp [Rg.cs] at hu; (rcases hu with h | h) <;> subst h <;> rfl) xs)
         (case a2 => unfold maxLen; omega)
         (case a3 => omega)
         (case a4 => simp)
         intro v' w3 hown' hgrow hz hat
         have HO := Lib.hid hown'
         have HB3 := Lib.hid (bl_grown (bl_alloc (Below.refl w.heap.size w) _) (by simp) hgrow (fun k hk => by cases hk; exact Nat.le_refl _))
         clear hown' hgrow hz hat))
    go_ret
    refine ⟨_, rfl, Lib.hid (by simpa using HO.out), HB3.out⟩

theorem eql39_nil (w : World) : (binOp BinOp.eql 39 (.slice none 0 0) (.slice none 0 0)).run Try.prog w = .ok (.bool true) w := by kernel_rfl
theorem eql39_some (ad : Addr) (n c : Nat) (w : World) : (binOp BinOp.eql 39 (.slice (some ad) n c) (.slice none 0 0)).run Try.prog w = .ok (.bool false) w := by kernel_rfl
set_option maxRecDepth 100000 in
set_option maxHeartbeats 1000000 in
theorem clone52_calls (xs : List Rd) (hl : xs.length ≤ 1000) (A : Option Addr) (c : Nat) (hA : (A = none ∧ c = 0 ∧ xs = []) ∨ ∃ ad, A = some ad) (w : World) (h : Row Rd.cs 6 w A xs) :
    Calls Try.prog 52 #[.slice A xs.length c] w fun e w' => ∃ v, e = .returned v ∧ Hid (w'.ownsRow w.heap.size 53 6 v xs.length (flat Rd.cs xs)) ∧ Below w.heap.size w w' := by
  obtain ⟨i0, hi, hz0, hz1, hz2⟩ := info_parts info53c
  have HR := Lib.hid h
  clear h
  rcases hA with ⟨rfl, rfl, rfl⟩ | ⟨ad, rfl⟩
  · have he := eql39_nil
    go_enter Try.func52, Try.ntmps52
    go_wp2_with fail
    go_ret
    exact ⟨_, rfl, Lib.hid (own_nil _ _ _ _), Below.refl _ _⟩
  · have he := eql39_some ad xs.length c
    go_enter Try.func52, Try.ntmps52
    go_wp2_with (first
      | (at_builtin; refine wpList_append_own_at _ rfl _ _ 39 rfl w.heap.size 53 i0 _ 6 48 Try.underlying39 hi hz0 hz1 hz2 rfl (by decide) (.slice (some ⟨w.heap.size, 0, none⟩) 0 0) 0 [] rfl ?a0 ad xs.length c (flat Rd.cs xs) rfl (flat_len (enc := Rd.cs) (fun _ => rfl) xs) (row_news (enc := Rd.cs) (xs := xs) (fun _ => rfl) (HR.out.below (bl_alloc (Below.refl _ _) _))) ?a1 ?a2 ?a3 ?a4 ?_
         (case a0 => exact ⟨by simp, .inr ⟨w.heap.size, 0, #[], rfl, Nat.le_refl _, heap_alloc_new w _, by omega, by unfold maxLen; omega, rfl, by simp⟩⟩)
         (case a1 => exact flat_one (by intro x u hu; simp [Rd.cs] at hu; (rcases hu with h | h | h | h | h | h) <;> subst h <;> rfl) xs)
         (case a2 => unfold maxLen; omega)
         (case a3 => omega)
         (case a4 => simp)
         intro v' w3 hown' hgrow hz hat
         have HO := Lib.hid hown'
         have HB3 := Lib.hid (bl_grown (bl_alloc (Below.refl w.heap.size w) _) (by simp) hgrow (fun k hk => by cases hk; exact Nat.le_refl _))
         clear hown' hgrow hz hat))
    go_ret
    refine ⟨_, rfl, Lib.hid (by simpa using HO.out), HB3.out⟩

end Go.Proofs.Ytnclljamcfoolaa
namespace Go.Proofs.Ytnclljamcfoolaa
open Go.RowKit Go.Shelf Go.Maps
set_option linter.unusedVariables false
set_option linter.unusedSimpArgs false

section
variable {P : Program} {w : World} {α : Type} {en : α → List Value}
/-- a row as an append reads it -/
theorem Row.news {size : Nat} (hsz : ∀ x, (en x).length = size) {A : Option Addr} {l : List α} (h : Row en size w A l) : (A = none ∧ l = []) ∨ ∃ ad, A = some ad ∧ ∀ j u, (flat en l)[j]? = some u → w.cell? (ad.add j) = some u := by
  cases A with
  | none =>
    rcases h with h | ⟨b, o, hA, -⟩
    · exact .inl ⟨rfl, h⟩
    · cases hA
  | some ad => exact .inr ⟨ad, rfl, row_news hsz h⟩
theorem wp_append_row {o : Oper} {a : Act} {K : Act → World → Prop} {Q : Exit → Act → World → Prop} (s x : Operand) (t : TypeId)
    (ho : o.op = .call { callee := .builtin .append, args := #[s, x], argTypes := #[t, t] })
    (base : Nat) (e : TypeId) (i : TypeInfo) (z : Value) (size bytes : Nat) (ht : P.underlying t = some (.slice e)) (hi : P.info? e = some i) (hz : i.zero = some z)
    (hsize : i.size = size) (hby : i.bytes = bytes) (hzs : z.cells.size = size) (hsz : 0 < size)
    (v : Value) (n : Nat) (xs : List Value) (hs : a.eval s = v) (hown : w.ownsRow base e size v n xs)
    (hen : ∀ x, (en x).length = size) (A : Option Addr) (l : List α) (h1 : ∀ x ∈ l, ∀ u ∈ en x, u.oneCell' = true) (c : Nat) (hx : a.eval x = .slice A l.length c) (hr : Row en size w A l)
    (h63 : n + l.length ≤ maxLen) (hbytes : (n + l.length) * bytes ≤ 140737488355328) (hbase : base ≤ w.heap.size)
    (h : ∀ v' w', w'.ownsRow base e size v' (n + l.length) (xs ++ flat en l) → w.grownBy w' v.ownBlock → (v'.ownBlock = v.ownBlock ∨ v'.ownBlock = some w.heap.size) → K (a.put o.dst v') w') : o.wp P a w K Q := by
  have hrun : ∃ v' w', (Builtin.append_ #[t, t] o.type #[v, .slice A l.length c]).run P w = .ok v' w' ∧ w'.ownsRow base e size v' (n + l.length) (xs ++ flat en l) ∧ w.grownBy w' v.ownBlock ∧ (v'.ownBlock = v.ownBlock ∨ v'.ownBlock = some w.heap.size) := by
    rcases hr.news hen with ⟨rfl, rfl⟩ | ⟨ad, rfl, hn⟩
    · refine ⟨v, w, ?_, by simpa [flat] using hown, ⟨rfl, rfl, rfl, Nat.le_refl _, fun _ _ _ => rfl⟩, .inl rfl⟩
      rcases hown.2 with ⟨rfl, rfl⟩ | ⟨g, cap, cur, rfl, -, -, hnc, -⟩
      · simp [Builtin.append_, run_underlying ht, sizeOf, typeInfo, hi, Builtin.lenOf, Builtin.firstCells]
      · simp [Builtin.append_, run_underlying ht, sizeOf, typeInfo, hi, Builtin.lenOf, Builtin.firstCells, hnc, storeCells]
    · obtain ⟨v', w', h2, h3, h4, h5, h6⟩ := run_append_own_at (P := P) w base t o.type e i z size bytes ht hi hz hsize hby hzs hsz v n xs hown ad l.length c (flat en l) (flat_len hen l) hn (fun u hu => by obtain ⟨q, hq, huq⟩ := List.mem_flatten.1 hu; obtain ⟨x, hx, rfl⟩ := List.mem_map.1 hq; exact h1 x hx u huq) h63 hbytes hbase
      exact ⟨v', w', h2, h3, h4, h6⟩
  obtain ⟨v', w', h2, h3, h4, h5⟩ := hrun
  unfold Oper.wp execOp
  simp only [ho, resolve, invoke, builtin, Sem.run_bind, Sem.run_pure, Result.andThen_ok, List.map_toArray, List.map_cons, List.map_nil, hs, hx, h2]
  exact h v' w' h3 h4 h5
theorem wpList_append_row {ops : Array Oper} {rest : List Oper} {o : Oper} {a : Act} {Q : Exit → Act → World → Prop} (hgd : o.guard = none) (s x : Operand) (t : TypeId)
    (ho : o.op = .call { callee := .builtin .append, args := #[s, x], argTypes := #[t, t] })
    (base : Nat) (e : TypeId) (i : TypeInfo) (z : Value) (size bytes : Nat) (ht : P.underlying t = some (.slice e)) (hi : P.info? e = some i) (hz : i.zero = some z)
    (hsize : i.size = size) (hby : i.bytes = bytes) (hzs : z.cells.size = size) (hsz : 0 < size)
    (v : Value) (n : Nat) (xs : List Value) (hs : a.eval s = v) (hown : w.ownsRow base e size v n xs)
    (hen : ∀ x, (en x).length = size) (A : Option Addr) (l : List α) (h1 : ∀ x ∈ l, ∀ u ∈ en x, u.oneCell' = true) (c : Nat) (hx : a.eval x = .slice A l.length c) (hr : Row en size w A l)
    (h63 : n + l.length ≤ maxLen) (hbytes : (n + l.length) * bytes ≤ 140737488355328) (hbase : base ≤ w.heap.size)
    (h : ∀ v' w', w'.ownsRow base e size v' (n + l.length) (xs ++ flat en l) → w.grownBy w' v.ownBlock → (v'.ownBlock = v.ownBlock ∨ v'.ownBlock = some w.heap.size) → wpList P ops Q rest (a.put o.dst v') w') : wpList P ops Q (o :: rest) a w :=
  wpList_plain hgd fun _ hK => wp_append_row s x t ho base e i z size bytes ht hi hz hsize hby hzs hsz v n xs hs hown hen A l h1 c hx hr h63 hbytes hbase fun v' w' h2 h3 h4 => hK _ _ (h v' w' h2 h3 h4)
theorem step_append_row {ops : Array Oper} {o : Oper} {a : Act} {K : Act → World → Prop} {Q : Exit → Act → World → Prop} {E : Prop} (hgd : o.guard = none) (s x : Operand) (t : TypeId)
    (ho : o.op = .call { callee := .builtin .append, args := #[s, x], argTypes := #[t, t] })
    (base : Nat) (e : TypeId) (i : TypeInfo) (z : Value) (size bytes : Nat) (ht : P.underlying t = some (.slice e)) (hi : P.info? e = some i) (hz : i.zero = some z)
    (hsize : i.size = size) (hby : i.bytes = bytes) (hzs : z.cells.size = size) (hsz : 0 < size)
    (v : Value) (n : Nat) (xs : List Value) (hs : a.eval s = v) (hown : w.ownsRow base e size v n xs)
    (hen : ∀ x, (en x).length = size) (A : Option Addr) (l : List α) (h1 : ∀ x ∈ l, ∀ u ∈ en x, u.oneCell' = true) (c : Nat) (hx : a.eval x = .slice A l.length c) (hr : Row en size w A l)
    (h63 : n + l.length ≤ maxLen) (hbytes : (n + l.length) * bytes ≤ 140737488355328) (hbase : base ≤ w.heap.size)
    (h : ∀ v' w', w'.ownsRow base e size v' (n + l.length) (xs ++ flat en l) → w.grownBy w' v.ownBlock → (v'.ownBlock = v.ownBlock ∨ v'.ownBlock = some w.heap.size) → K (a.put o.dst v') w') :
    if Region.wanted o (yielded ops a.tmps) = true then Oper.wp P o a w K Q else E := by
  rw [if_pos (by simp [Region.wanted, hgd])]
  exact wp_append_row s x t ho base e i z size bytes ht hi hz hsize hby hzs hsz v n xs hs hown hen A l h1 c hx hr h63 hbytes hbase h
/-- an empty new row is a row of one's own -/
theorem own_empty {w : World} {base g : Nat} {e : TypeId} {size : Nat} (h : w.heap[g]? = some (.cells #[] e (0, 0))) (hb : base ≤ g) : w.ownsRow base e size (.slice (some ⟨g, 0, none⟩) 0 0) 0 [] := by
  refine ⟨by simp, .inr ⟨g, 0, #[], rfl, hb, h, ?_, ?_, ?_, ?_⟩⟩ <;> first | omega | simp | (unfold maxLen; omega)
/-- a new row is a row of one's own -/
theorem own_new {w : World} {base g n : Nat} {e : TypeId} {size : Nat} {cs : Array Value} (h : w.heap[g]? = some (.cells cs e (0, 0))) (hb : base ≤ g) (hl : cs.size = n * size) (hn : n ≤ maxLen) : w.ownsRow base e size (.slice (some ⟨g, 0, none⟩) n n) n cs.toList := by
  refine ⟨by simpa using hl, .inr ⟨g, n, cs, rfl, hb, h, ?_, ?_, ?_, ?_⟩⟩ <;> first | exact Nat.le_refl _ | exact hn | exact hl | (simp; done) | (rw [List.take_of_length_le (by simp; omega)])
end
end Go.Proofs.Ytnclljamcfoolaa
namespace Go.Proofs.Ytnclljamcfoolaa
open Go.RowKit
set_option linter.unusedVariables false
set_option linter.unusedSimpArgs false

section
variable {P : Program} {md : Region.Mode} {ops : Array Oper} {Q : Exit → Act → World → Prop} {S : World → Prop}
/-- how many operations have not come up -/
def openN (l : Array Bool) : Nat := l.toList.countP (fun b => !b)
theorem openN_set {l : Array Bool} {i : Nat} (h : l.getD i true = false) : openN (l.setIfInBounds i true) + 1 = openN l := by
  have hi : i < l.size := by
    rcases Nat.lt_or_ge i l.size with h1 | h1
    · exact h1
    · simp [Array.getD, Nat.not_lt.2 h1] at h
  have hv : l.toList[i]'(by simpa using hi) = false := by simpa [Array.getD, hi] using h
  unfold openN
  rw [Array.toList_setIfInBounds]
  have := List.countP_set (p := fun b : Bool => !b) (l := l.toList) (i := i) (a := true) (by simpa using hi)
  have hp : 0 < l.toList.countP (fun b => !b) := List.countP_pos_iff.2 ⟨_, List.getElem_mem (by simpa using hi : i < l.toList.length), by rw [hv]; rfl⟩
  rw [this, hv]
  simp only [Bool.not_false, Bool.not_true, if_true, Bool.false_eq_true, if_false] at *
  omega
/-- whatever order is picked: T is so at first, each operation that may come up keeps it, and where none is left it gives what is to be shown -/
theorem wpAnyH_gather {T : Array Bool → Act → World → Prop}
    (hstep : ∀ i l a w, i ∈ Region.ready md ops l → T l a w → ∃ o, ops[i]? = some o ∧ ∀ K : Act → World → Prop, Shut (∀ a' w', S w' → T (l.setIfInBounds i true) a' w' → K a' w') → if Region.wanted o (yielded ops a.tmps) = true then Oper.wp P o a w K Q else K (a.put o.dst undef) w)
    (hend : ∀ l a w, Region.ready md ops l = [] → T l a w → Q .normal a w) :
    ∀ (fuel : Nat) (l : Array Bool) (a : Act) (w : World), openN l ≤ fuel → T l a w → wpAnyH P md ops Q S fuel l a w
  | 0, l, a, w, hf, hT => by
    have hr : Region.ready md ops l = [] := List.eq_nil_iff_forall_not_mem.2 fun i hi => by
      have := openN_set (mem_ready.1 hi).1
      omega
    exact ⟨hr, hend l a w hr hT⟩
  | fuel + 1, l, a, w, hf, hT => by
    refine ⟨fun hr => hend l a w hr hT, fun i hi => ?_⟩
    obtain ⟨o, ho, h⟩ := hstep i l a w hi hT
    have hs := openN_set (mem_ready.1 hi).1
    exact wpOp_step ho (fun K' hK => h K' (fun a w hS hT' => hK a w ⟨hS, wpAnyH_gather hstep hend fuel _ _ _ (by omega) hT'⟩))
end

/-- rows whose elements differ in type are two rows -/
theorem own_ne_type {w : World} {b b' e e' s s' n n' : Nat} {v v' : Value} {xs xs' : List Value} (h : w.ownsRow b e s v n xs) (h' : w.ownsRow b' e' s' v' n' xs') (he : e ≠ e') : v.ownBlock = none ∨ v.ownBlock ≠ v'.ownBlock := by
  rcases h.2 with ⟨rfl, -⟩ | ⟨g, cap, cur, rfl, -, hg, -⟩
  · exact .inl rfl
  · refine .inr fun hv => ?_
    rcases h'.2 with ⟨rfl, -⟩ | ⟨g', cap', cur', rfl, -, hg', -⟩
    · cases hv
    · obtain rfl : g = g' := by simpa [Value.ownBlock] using hv
      rw [hg] at hg'
      simp at hg'
      exact he hg'.2
theorem blk_ne_own {w : World} {b e e' s n p : Nat} {cs : Array Value} {v : Value} {xs : List Value} (h : w.heap[p]? = some (.cells cs e (0, 0))) (h' : w.ownsRow b e' s v n xs) (he : e ≠ e') : some p ≠ v.ownBlock := fun hv => by
  rcases h'.2 with ⟨rfl, -⟩ | ⟨g', cap', cur', rfl, -, hg', -⟩
  · cases hv
  · obtain rfl : p = g' := by simpa [Value.ownBlock] using hv
    rw [h] at hg'
    simp at hg'
    exact he hg'.2
end Go.Proofs.Ytnclljamcfoolaa
