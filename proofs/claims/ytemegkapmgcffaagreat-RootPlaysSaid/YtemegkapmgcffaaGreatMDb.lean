import Derived.Test.YtemegkapmgcffaaGreatMDa
/- The disk: Cut. -/
namespace Go.Proofs.YtemegkapmgcffaaGreat
open Go.RowKit
set_option linter.unusedSimpArgs false
set_option linter.unusedVariables false

theorem infoByteC : (Tryz.prog.info? 5).map (fun i => (i.zero, i.size, i.bytes)) = some (some (.int .u8 0), 1, 1) := by kernel_rfl
set_option maxHeartbeats 400000 in
theorem cloneS_any (A : Addr) (n c : Nat) (l : List UInt8) (w : World) (hs : Sl w 1 (some A) n c (bytesV l)) (hl : n ≤ 70368744175616) :
    Calls Tryz.prog 56 #[.slice (some A) n c] w fun e w' => ∃ v, e = .returned v ∧ w'.ownsRow w.heap.size 5 1 v n (bytesV l) ∧ Below w.heap.size w w' := by
  obtain ⟨i0, hi, hz0, hz1, hz2⟩ := info_parts infoByteC
  have hown : (w.alloc (.cells #[] 5)).ownsRow w.heap.size 5 1 (.slice (some ⟨w.heap.size, 0, none⟩) 0 0) 0 [] := World.ownsRow_lit w #[] 0 (Nat.le_refl _) (by unfold maxLen; omega) rfl
  have hb := below_alloc1 w (.cells #[] 5)
  have hnil : ∀ W, (binOp .eql 34 (.slice (some A) n c) (.slice none 0 0)).run Tryz.prog W = .ok (.bool false) W := fun W => Lib.run_eql_slice_some_nil W _ _ _ Tryz.underlying34
  go_enter Tryz.func56, Tryz.ntmps56
  go_wp2_with (at_builtin; refine wpList_append_own _ rfl _ _ 34 rfl w.heap.size 5 i0 (.int .u8 0) 1 1 Tryz.underlying34 hi hz0 hz1 hz2 rfl (by decide) _ 0 [] rfl hown A n c (bytesV l) rfl hs.len (fun j u hj => by obtain ⟨ad', h1, h2⟩ := (hs.below hb).cells j u hj; cases h1; exact h2) (bytesV_one l) (by unfold maxLen; omega) (by omega) (by simp) ?_; intro v' w2 hown2 hgrow2 hnil2)
  go_ret
  refine ⟨_, rfl, by simpa using hown2, hb.trans ((Below.refl _ _).grown hgrow2 (by simp) (fun k hk => by cases hk; exact Nat.le_refl _))⟩
set_option maxHeartbeats 400000 in
theorem cloneN_any (w : World) :
    Calls Tryz.prog 56 #[.slice none 0 0] w fun e w' => e = .returned (.slice none 0 0) ∧ Below w.heap.size w w' := by
  have hnil : ∀ W, (binOp .eql 34 (.slice none 0 0) (.slice none 0 0)).run Tryz.prog W = .ok (.bool true) W := fun W => Lib.run_eql_slice_nil_nil W _ _ Tryz.underlying34
  go_enter Tryz.func56, Tryz.ntmps56
  go_wp2_with fail
  go_ret
  exact ⟨rfl, Below.refl _ _⟩
theorem own_lt {base size n c : Nat} {e : TypeId} {w : World} {A : Option Addr} {cs : List Value} (h : Own base e size w A n c cs) : ∀ a, A = some a → base ≤ a.block ∧ a.block < w.heap.size := by
  intro a ha
  subst ha
  rcases h.2 with ⟨h0, _⟩ | ⟨g, cap, cur, h0, h1, h2, h3⟩
  · simp at h0
  · simp only [Value.slice.injEq] at h0
    obtain ⟨h4, _⟩ := h0
    cases h4
    exact ⟨h1, (Array.getElem?_eq_some_iff.1 h2).1⟩
def isCl (B n : Nat) (l : List UInt8) : Value → World → Prop := fun v w => ∃ A c, v = .slice A n c ∧ Own B 5 1 w A n c (bytesV l)
theorem isCl_elim {B n : Nat} {l : List UInt8} {v : Value} {w : World} (h : isCl B n l v w) : ∃ A c, v = .slice A n c ∧ Own B 5 1 w A n c (bytesV l) := h
def Gk (g : Nat) : Nat → Prop := fun q => q = g
theorem isCl_stable {B n g : Nat} {l : List UInt8} (hg : g < B) : StableR (Cg (Gk g) (Gk g)) (isCl B n l) := fun _ _ _ hr ⟨A, c, h1, h2⟩ => ⟨A, c, h1, own_same h2 (fun a ha => hr.block _ (own_lt h2 a ha).2 (fun e => by have := (own_lt h2 a ha).1; unfold Gk at e; omega))⟩
theorem clone_such {B n c : Nat} {l : List UInt8} {A : Option Addr} {w : World} (hB : B ≤ w.heap.size) (h : Sl w 1 A n c (bytesV l) ∧ n ≤ 70368744175616) :
    Calls Tryz.prog 56 #[.slice A n c] w fun e w' => ∃ v, e = .returned v ∧ Below w.heap.size w w' ∧ isCl B n l v w' := by
  cases A with
  | none =>
    obtain ⟨rfl, rfl⟩ := h.1.none rfl
    refine (cloneN_any w).mono fun e w' ⟨h1, h2⟩ => ⟨_, h1, h2, none, 0, rfl, ?_⟩
    have := h.1.len
    exact ⟨this, .inl ⟨rfl, rfl⟩⟩
  | some a =>
    refine (cloneS_any a n c l w h.1 h.2).mono fun e w' ⟨v, h1, h2, h3⟩ => ?_
    have h5 := h2
    rcases h2.2 with ⟨h4, h6⟩ | ⟨g, cap, cur, h4, _⟩
    · refine ⟨v, h1, h3, none, 0, by rw [h4, h6], ?_⟩
      rw [h4] at h5
      exact Own.lower (by unfold Own; rw [h6] at h5 ⊢; exact h5) hB
    · refine ⟨v, h1, h3, _, cap, h4, ?_⟩
      rw [h4] at h5
      exact Own.lower h5 hB
theorem DI.widen {w : World} {base p : Nat} {D : Dk} {F F' : Nat → Prop} {R : Option Addr} {c : Nat} {es : List FE} (h : DI w base p D F R c es) (hF : ∀ q, F q → F' q) (hb : ∀ q, F' q → base ≤ q ∧ q < w.heap.size) : DI w base p D F' R c es :=
  ⟨h.own, h.row, fun x hx => ⟨(h.each x hx).1, fun a ha => ⟨hF _ ((h.each x hx).2 a ha).1, ((h.each x hx).2 a ha).2⟩⟩, h.fs, h.good, hF _ h.fp, fun a ha => ⟨hF _ (h.fr a ha).1, (h.fr a ha).2⟩, hb⟩
/-- the file's bytes are cut, how much is safe is not told yet -/
def JCut (B base p : Nat) (D : Dk) (F : Nat → Prop) (g c : Nat) (es : List FE) (k : Nat) (e : FE) (n : Nat) (w : World) : Prop :=
  ∃ (w0 : World) (A' : Option Addr) (c' : Nat), DI w0 base p D F (some ⟨g, 0, none⟩) c es ∧ w0.grownBy w (some g) ∧ B ≤ w0.heap.size ∧ Own B 5 1 w0 A' n c' (bytesV (e.f.b.take n)) ∧ Own base 79 3 w (some ⟨g, 0, none⟩) es.length c (flatFE (es.set k ⟨⟨e.f.nm, e.f.b.take n, e.f.safe⟩, A', c'⟩))
section
variable {B base p : Nat} {D : Dk} {F : Nat → Prop} {g c : Nat} {es : List FE} {k : Nat} {e : FE} {n : Nat} {w w' : World}
theorem JCut_below (h : JCut B base p D F g c es k e n w) (hb : Below w.heap.size w w') : JCut B base p D F g c es k e n w' := by
  obtain ⟨w0, A', c', h1, h2, h3, h4, h5⟩ := h
  exact ⟨w0, A', c', h1, grown_below h2 hb, h3, h4, h5.below hb⟩
theorem cut_first {A' : Option Addr} {c' : Nat} (h : DI w base p D F (some ⟨g, 0, none⟩) c es) (he : es[k]? = some e) (hn : n ≤ e.f.b.length) (ho : Own B 5 1 w A' n c' (bytesV (e.f.b.take n))) (hB : B ≤ w.heap.size) :
    w.cell? ⟨g, k * 3 + 1, none⟩ = some (.slice e.A e.f.b.length e.c) ∧ w.frozen? ⟨g, k * 3 + 1, none⟩ = false ∧ Cg (Gk g) (Gk g) w (w.setCell ⟨g, k * 3 + 1, none⟩ (.slice A' n c')) ∧ JCut B base p D F g c es k e n (w.setCell ⟨g, k * 3 + 1, none⟩ (.slice A' n c')) := by
  obtain ⟨y0, y1, y2⟩ := slFE_three h.row.sl he
  rw [add_plain] at y1
  have st := World.ownsRow.stored h.row (k * 3 + 1) (.slice A' n c')
  refine ⟨y1, World.ownsRow.frozenAt h.row _, Cg.grown st.2 rfl, w, A', c', h, st.2, hB, ho, ?_⟩
  rw [flat_set he 1 (.slice A' n c') (by omega) (by simp [feC, List.length_take, Nat.min_eq_left hn])]
  exact st.1
theorem JCut_store (h : JCut B base p D F g c es k e n w) (he : es[k]? = some e) (hn : n ≤ e.f.b.length) (hFB : ∀ q, F q → q < B) :
    w.cell? ⟨g, k * 3 + 2, none⟩ = some (.int .i64 (e.f.safe : Int)) ∧ w.frozen? ⟨g, k * 3 + 2, none⟩ = false ∧ Cg (Gk g) (Gk g) w (w.setCell ⟨g, k * 3 + 2, none⟩ (.int .i64 (n : Int))) ∧
      ∃ F', DkIs (w.setCell ⟨g, k * 3 + 2, none⟩ (.int .i64 (n : Int))) base p { D with fs := D.fs.set k ⟨e.f.nm, e.f.b.take n, n⟩ } F' ∧ ∀ q, F' q → F q ∨ B ≤ q := by
  obtain ⟨w0, A', c', h0, hg, hB, ho, hr⟩ := h
  have hk := (List.getElem?_eq_some_iff.1 he).1
  have he1 : (es.set k ⟨⟨e.f.nm, e.f.b.take n, e.f.safe⟩, A', c'⟩)[k]? = some ⟨⟨e.f.nm, e.f.b.take n, e.f.safe⟩, A', c'⟩ := List.getElem?_set_self hk
  obtain ⟨y0, y1, y2⟩ := slFE_three hr.sl he1
  rw [add_plain] at y2
  have st := World.ownsRow.stored hr (k * 3 + 2) (.int .i64 (n : Int))
  have hlen : (e.f.b.take n).length = n := by rw [List.length_take]; exact Nat.min_eq_left hn
  have hpb := h0.plt
  have hpB := hFB p h0.fp
  have hgB := hFB g (h0.fr _ rfl).1
  have hw := h0.widen (F' := fun q => F q ∨ ∃ a, A' = some a ∧ q = a.block) (fun q hq => .inl hq) (fun q hq => by
    rcases hq with hq | ⟨a, ha, rfl⟩
    · exact h0.bound q hq
    · have := own_lt ho a ha; omega)
  have hgd := h0.good.setF (k := k) (f := e.f) (f' := ⟨e.f.nm, e.f.b.take n, n⟩) (h0.fsAt he) rfl (by simp only; omega) (by simp only; omega)
  have hgr := hg.trans st.2
  have hfin := hw.rowed (e' := ⟨⟨e.f.nm, e.f.b.take n, n⟩, A', c'⟩) rfl he hgr (by
      have := st.1
      rw [← flat_set (e' := ⟨⟨e.f.nm, e.f.b.take n, n⟩, A', c'⟩) he1 2 (.int .i64 (n : Int)) (by omega) rfl, List.set_set] at this
      exact this) hgd ⟨by
      simp only [hlen]
      exact (own_same ho (fun a ha => hgr.block _ (own_lt ho a ha).2 (fun e2 => by have := (own_lt ho a ha).1; have := Option.some.inj e2; omega))).sl, fun a ha => ⟨.inr ⟨a, ha, rfl⟩, by have := (own_lt ho a ha).1; omega, by have := (own_lt ho a ha).1; omega⟩⟩
  refine ⟨y2, World.ownsRow.frozenAt hr _, Cg.grown st.2 rfl, _, ⟨_, _, _, hfin.1⟩, fun q hq => ?_⟩
  rcases hq with hq | ⟨a, ha, rfl⟩
  · exact .inl hq
  · exact .inr (own_lt ho a ha).1
end
section
variable {W : World} {base p : Nat} {D : Dk} {F : Nat → Prop} {R : Option Addr} {c : Nat} {es : List FE}
set_option maxRecDepth 100000 in
set_option maxHeartbeats 8000000 in
theorem cut2_any (h : DI W base p D F R c es) {bx nb : Nat} (hbx : W.cell? ⟨bx, 0, none⟩ = some (.pointer (some ⟨p, 0, none⟩))) (hbF : ¬ F bx) {n : Nat} (hnb : W.cell? ⟨nb, 0, none⟩ = some (.int .i64 (n : Int))) (hnF : ¬ F nb) {k : Nat} {e : FE} (he : es[k]? = some e) (hn : n ≤ e.f.b.length) :
    Calls Tryz.prog 55 #[.int .i64 (k : Int), .pointer (some ⟨bx, 0, none⟩), .pointer (some ⟨nb, 0, none⟩)] W fun x w' => x = .returned (.tuple #[]) ∧ ∃ F', DkIs w' base p { D with fs := D.fs.set k ⟨e.f.nm, e.f.b.take n, n⟩ } F' ∧ Cg F F' W w' := by
  obtain ⟨g, rfl⟩ := rowAddr h he
  have hk := (List.getElem?_eq_some_iff.1 he).1
  have hl200 := h.len
  have hfg := h.fr _ rfl
  have hbg : ¬ Gk g bx := fun e2 => hbF (by unfold Gk at e2; rw [e2]; exact hfg.1)
  have hng : ¬ Gk g nb := fun e2 => hnF (by unfold Gk at e2; rw [e2]; exact hfg.1)
  have hpg : ¬ Gk g p := fun e2 => hfg.2 (by unfold Gk at e2; exact e2.symm)
  have hgB : g < W.heap.size := (h.bound g hfg.1).2
  have hin : (0 : Int) ≤ (k : Int) ∧ (k : Int) < (es.length : Int) := by omega
  have hk3 : k < 200 := by omega
  have hse := h.each e (List.mem_of_getElem? he)
  have hnc : (0 : Int) ≤ (n : Int) ∧ (n : Int) ≤ (e.c : Int) := by have := hse.1.le; omega
  have hbl : e.f.b.length ≤ 16777216 := by
    have h1 := used_set (f' := ⟨e.f.nm, [], 0⟩) (h.fsAt he)
    have h2 := h.good.used
    have h3 := h.good.room
    simp only [List.length_nil] at h1
    omega
  have HC0 := Lib.hid h.cell.1
  have HFB := Lib.hid (show ∀ q, F q → q < W.heap.size from fun q hq => (h.bound q hq).2)
  have Hs := Lib.hid (show ∀ w, Cg (Gk g) (Gk g) W w → Sl w 1 e.A n e.c (bytesV (e.f.b.take n)) ∧ n ≤ 70368744175616 from fun w hb => by
    refine ⟨?_, by omega⟩
    have h1 := sl_same hse.1 (fun a ha => hb.block _ (h.bound _ (hse.2 a ha).1).2 (fun e2 => (hse.2 a ha).2.2 _ rfl e2))
    have h2 : bytesV (e.f.b.take n) = (bytesV e.f.b).take n := by unfold bytesV; rw [List.map_take]
    refine ⟨fun j u hj => ?_, ?_, by have := h1.le; omega, fun ha => ⟨by have := (h1.none ha).1; omega, (h1.none ha).2⟩⟩
    · rw [h2, List.getElem?_take] at hj
      split at hj
      · exact h1.cells j u hj
      · cases hj
    · rw [h2, List.length_take, h1.len]; omega)
  have H := Lib.hid h
  have HBx := Lib.hid hbx
  have HNb := Lib.hid hnb
  have HFp := Lib.hid hfg.1
  clear h hbx hnb hfg hse hbl
  go_enter Tryz.func55, Tryz.ntmps55
  --@region 98 0 cut0.spec
  refine wp_region_runN [17, 24, 27] (fun _ w => DI w base p D F (some ⟨g, 0, none⟩) c es) (by kernel_rfl) (by kernel_rfl) (by kernel_rfl) (R := Cg (Gk g) (Gk g)) (fun _ _ h => Cg.below h) (fun _ _ _ => Cg.trans) (fun _ _ _ hb hj => DI.below hj hb) H.out ?_
  apply RunN.pure (by decide)
  · intro vs w hb hd; clear hd; have hx1 := box_kept hb HBx.out hbg; simp only [List.take, putL, Act.put, List.setIfInBounds_toArray, List.set_cons_zero, List.set_cons_succ]; unfold StepOK; go_simp; exact ⟨Below.refl _ _, isV_mk _ _⟩
  apply RunN.pure (by decide)
  · intro vs w hb hd; have d0 : isV _ (vs 0) w := hd 0 (by decide) (by kernel_rfl); unfold isV at d0; clear hd; simp only [List.take, putL, Act.put, List.setIfInBounds_toArray, List.set_cons_zero, List.set_cons_succ]; unfold StepOK; go_simp; exact ⟨Below.refl _ _, isV_mk _ _⟩
  apply RunN.pure (by decide)
  · intro vs w hb hd; have d1 : isV _ (vs 1) w := hd 1 (by decide) (by kernel_rfl); unfold isV at d1; clear hd; simp only [List.take, putL, Act.put, List.setIfInBounds_toArray, List.set_cons_zero, List.set_cons_succ]; unfold StepOK; go_simp; exact ⟨Below.refl _ _, isV_mk _ _⟩
  apply RunN.pure (by decide)
  · intro vs w hb hd; have d2 : isV _ (vs 2) w := hd 2 (by decide) (by kernel_rfl); unfold isV at d2; clear hd; have hx1 := box_kept hb HC0.out hpg; simp only [List.take, putL, Act.put, List.setIfInBounds_toArray, List.set_cons_zero, List.set_cons_succ]; unfold StepOK; go_simp; exact ⟨Below.refl _ _, isV_mk _ _⟩
  apply RunN.pure (by decide)
  · intro vs w hb hd; clear hd; simp only [List.take, putL, Act.put, List.setIfInBounds_toArray, List.set_cons_zero, List.set_cons_succ]; unfold StepOK; go_simp; exact ⟨Below.refl _ _, isV_mk _ _⟩
  apply RunN.pure (by decide)
  · intro vs w hb hd; clear hd; have hx1 := box_kept hb HBx.out hbg; simp only [List.take, putL, Act.put, List.setIfInBounds_toArray, List.set_cons_zero, List.set_cons_succ]; unfold StepOK; go_simp; exact ⟨Below.refl _ _, isV_mk _ _⟩
  apply RunN.pure (by decide)
  · intro vs w hb hd; have d5 : isV _ (vs 5) w := hd 5 (by decide) (by kernel_rfl); unfold isV at d5; clear hd; simp only [List.take, putL, Act.put, List.setIfInBounds_toArray, List.set_cons_zero, List.set_cons_succ]; unfold StepOK; go_simp; exact ⟨Below.refl _ _, isV_mk _ _⟩
  apply RunN.pure (by decide)
  · intro vs w hb hd; have d6 : isV _ (vs 6) w := hd 6 (by decide) (by kernel_rfl); unfold isV at d6; clear hd; simp only [List.take, putL, Act.put, List.setIfInBounds_toArray, List.set_cons_zero, List.set_cons_succ]; unfold StepOK; go_simp; exact ⟨Below.refl _ _, isV_mk _ _⟩
  apply RunN.pure (by decide)
  · intro vs w hb hd; have d7 : isV _ (vs 7) w := hd 7 (by decide) (by kernel_rfl); unfold isV at d7; clear hd; have hx1 := box_kept hb HC0.out hpg; simp only [List.take, putL, Act.put, List.setIfInBounds_toArray, List.set_cons_zero, List.set_cons_succ]; unfold StepOK; go_simp; exact ⟨Below.refl _ _, isV_mk _ _⟩
  apply RunN.pure (by decide)
  · intro vs w hb hd; clear hd; simp only [List.take, putL, Act.put, List.setIfInBounds_toArray, List.set_cons_zero, List.set_cons_succ]; unfold StepOK; go_simp; exact ⟨Below.refl _ _, isV_mk _ _⟩
  apply RunN.pure (by decide)
  · intro vs w hb hd; clear hd; have hx1 := box_kept hb HBx.out hbg; simp only [List.take, putL, Act.put, List.setIfInBounds_toArray, List.set_cons_zero, List.set_cons_succ]; unfold StepOK; go_simp; exact ⟨Below.refl _ _, isV_mk _ _⟩
  apply RunN.pure (by decide)
  · intro vs w hb hd; have d10 : isV _ (vs 10) w := hd 10 (by decide) (by kernel_rfl); unfold isV at d10; clear hd; simp only [List.take, putL, Act.put, List.setIfInBounds_toArray, List.set_cons_zero, List.set_cons_succ]; unfold StepOK; go_simp; exact ⟨Below.refl _ _, isV_mk _ _⟩
  apply RunN.pure (by decide)
  · intro vs w hb hd; have d11 : isV _ (vs 11) w := hd 11 (by decide) (by kernel_rfl); unfold isV at d11; clear hd; simp only [List.take, putL, Act.put, List.setIfInBounds_toArray, List.set_cons_zero, List.set_cons_succ]; unfold StepOK; go_simp; exact ⟨Below.refl _ _, isV_mk _ _⟩
  apply RunN.pure (by decide)
  · intro vs w hb hd; have d12 : isV _ (vs 12) w := hd 12 (by decide) (by kernel_rfl); unfold isV at d12; clear hd; have hx1 := box_kept hb HC0.out hpg; simp only [List.take, putL, Act.put, List.setIfInBounds_toArray, List.set_cons_zero, List.set_cons_succ]; unfold StepOK; go_simp; exact ⟨Below.refl _ _, isV_mk _ _⟩
  apply RunN.pure (by decide)
  · intro vs w hb hd; clear hd; simp only [List.take, putL, Act.put, List.setIfInBounds_toArray, List.set_cons_zero, List.set_cons_succ]; unfold StepOK; go_simp; exact ⟨Below.refl _ _, isV_mk _ _⟩
  apply RunN.pure (by decide)
  · intro vs w hb hd; have d13 : isV _ (vs 13) w := hd 13 (by decide) (by kernel_rfl); unfold isV at d13; have d14 : isV _ (vs 14) w := hd 14 (by decide) (by kernel_rfl); unfold isV at d14; clear hd; simp only [List.take, putL, Act.put, List.setIfInBounds_toArray, List.set_cons_zero, List.set_cons_succ]; unfold StepOK; go_simp; exact ⟨Below.refl _ _, isV_mk _ _⟩
  apply RunN.pure (by decide)
  · intro vs w hb hd; have d15 : isV _ (vs 15) w := hd 15 (by decide) (by kernel_rfl); unfold isV at d15; clear hd; simp only [List.take, putL, Act.put, List.setIfInBounds_toArray, List.set_cons_zero, List.set_cons_succ]; unfold StepOK; go_simp; exact ⟨Below.refl _ _, isV_mk _ _⟩
  refine RunN.effV (c := (.slice e.A e.f.b.length e.c)) (by decide) ((fun v w => v = .slice e.A e.f.b.length e.c ∧ DI w base p D F (some ⟨g, 0, none⟩) c es)) (fun _ _ _ hb hj => ⟨hj.1, DI.below hj.2 hb⟩) (by rfl) (fun v w h => h.1) ?_ ?_
  · intro vs w hb hd hj; have d16 : isV _ (vs 16) w := hd 16 (by decide) (by kernel_rfl); unfold isV at d16; clear hd; have hj2 := hj; (try simp only [prevE, lastV, List.mem_cons, List.not_mem_nil, or_false, Nat.reduceEqDiff, Nat.reduceAdd, if_true, if_false, reduceIte, or_true, true_or, or_self] at hj2); clear hj; obtain ⟨y0, y1, y2⟩ := slFE_three hj2.row.sl he; rw [add_plain] at y0 y1 y2; simp only [] at y1 y2; simp only [List.take, putL, Act.put, List.setIfInBounds_toArray, List.set_cons_zero, List.set_cons_succ]; unfold StepE; go_simp; first | exact Cg.below (Below.refl _ _) | exact ⟨Cg.below (Below.refl _ _), hj2⟩
  apply RunN.pure (by decide)
  · intro vs w hb hd; clear hd; have hx1 := box_kept hb HNb.out hng; simp only [List.take, putL, Act.put, List.setIfInBounds_toArray, List.set_cons_zero, List.set_cons_succ]; unfold StepOK; go_simp; exact ⟨Below.refl _ _, isV_mk _ _⟩
  apply RunN.pure (by decide)
  · intro vs w hb hd; have d17 : isV _ (vs 17) w := hd 17 (by decide) (by kernel_rfl); unfold isV at d17; have d18 : isV _ (vs 18) w := hd 18 (by decide) (by kernel_rfl); unfold isV at d18; clear hd; have hx1 := hnc; simp only [List.take, putL, Act.put, List.setIfInBounds_toArray, List.set_cons_zero, List.set_cons_succ]; unfold StepOK; go_simp; exact ⟨Below.refl _ _, isV_mk _ _⟩
  refine RunN.such (by decide) (isCl W.heap.size n (e.f.b.take n)) (isCl_stable hgB) ?_ ?_
  · intro vs w hb hd; have d19 : isV _ (vs 19) w := hd 19 (by decide) (by kernel_rfl); unfold isV at d19; clear hd; simp only [List.take, putL, Act.put, List.setIfInBounds_toArray, List.set_cons_zero, List.set_cons_succ]; unfold StepOK; go_simp; exact ⟨Below.refl _ _, clone_such hb.size (Hs.out _ hb)⟩
  apply RunN.pure (by decide)
  · intro vs w hb hd; clear hd; have hx1 := box_kept hb HNb.out hng; simp only [List.take, putL, Act.put, List.setIfInBounds_toArray, List.set_cons_zero, List.set_cons_succ]; unfold StepOK; go_simp; exact ⟨Below.refl _ _, isV_mk _ _⟩
  apply RunN.pure (by decide)
  · intro vs w hb hd; have d0 : isV _ (vs 0) w := hd 0 (by decide) (by kernel_rfl); unfold isV at d0; have d1 : isV _ (vs 1) w := hd 1 (by decide) (by kernel_rfl); unfold isV at d1; have d2 : isV _ (vs 2) w := hd 2 (by decide) (by kernel_rfl); unfold isV at d2; have d3 : isV _ (vs 3) w := hd 3 (by decide) (by kernel_rfl); unfold isV at d3; have d4 : isV _ (vs 4) w := hd 4 (by decide) (by kernel_rfl); unfold isV at d4; have d8 : isV _ (vs 8) w := hd 8 (by decide) (by kernel_rfl); unfold isV at d8; have d10 : isV _ (vs 10) w := hd 10 (by decide) (by kernel_rfl); unfold isV at d10; have d11 : isV _ (vs 11) w := hd 11 (by decide) (by kernel_rfl); unfold isV at d11; have d12 : isV _ (vs 12) w := hd 12 (by decide) (by kernel_rfl); unfold isV at d12; have d13 : isV _ (vs 13) w := hd 13 (by decide) (by kernel_rfl); unfold isV at d13; have d14 : isV _ (vs 14) w := hd 14 (by decide) (by kernel_rfl); unfold isV at d14; have d15 : isV _ (vs 15) w := hd 15 (by decide) (by kernel_rfl); unfold isV at d15; have d16 : isV _ (vs 16) w := hd 16 (by decide) (by kernel_rfl); unfold isV at d16; have d17 : isV _ (vs 17) w := hd 17 (by decide) (by kernel_rfl); unfold isV at d17; have d18 : isV _ (vs 18) w := hd 18 (by decide) (by kernel_rfl); unfold isV at d18; have d19 : isV _ (vs 19) w := hd 19 (by decide) (by kernel_rfl); unfold isV at d19; have d20 := hd 20 (by decide) (by kernel_rfl); simp only [TR, Nat.reduceAdd, Nat.reduceSub, List.getD_cons_zero, List.getD_cons_succ] at d20; clear hd; simp only [List.take, putL, Act.put, List.setIfInBounds_toArray, List.set_cons_zero, List.set_cons_succ]; unfold StepOK; go_simp; exact ⟨Below.refl _ _, isV_mk _ _⟩
  apply RunN.pure (by decide)
  · intro vs w hb hd; have d0 : isV _ (vs 0) w := hd 0 (by decide) (by kernel_rfl); unfold isV at d0; have d1 : isV _ (vs 1) w := hd 1 (by decide) (by kernel_rfl); unfold isV at d1; have d2 : isV _ (vs 2) w := hd 2 (by decide) (by kernel_rfl); unfold isV at d2; have d3 : isV _ (vs 3) w := hd 3 (by decide) (by kernel_rfl); unfold isV at d3; have d4 : isV _ (vs 4) w := hd 4 (by decide) (by kernel_rfl); unfold isV at d4; have d8 : isV _ (vs 8) w := hd 8 (by decide) (by kernel_rfl); unfold isV at d8; have d10 : isV _ (vs 10) w := hd 10 (by decide) (by kernel_rfl); unfold isV at d10; have d11 : isV _ (vs 11) w := hd 11 (by decide) (by kernel_rfl); unfold isV at d11; have d12 : isV _ (vs 12) w := hd 12 (by decide) (by kernel_rfl); unfold isV at d12; have d13 : isV _ (vs 13) w := hd 13 (by decide) (by kernel_rfl); unfold isV at d13; have d14 : isV _ (vs 14) w := hd 14 (by decide) (by kernel_rfl); unfold isV at d14; have d15 : isV _ (vs 15) w := hd 15 (by decide) (by kernel_rfl); unfold isV at d15; have d16 : isV _ (vs 16) w := hd 16 (by decide) (by kernel_rfl); unfold isV at d16; have d17 : isV _ (vs 17) w := hd 17 (by decide) (by kernel_rfl); unfold isV at d17; have d18 : isV _ (vs 18) w := hd 18 (by decide) (by kernel_rfl); unfold isV at d18; have d19 : isV _ (vs 19) w := hd 19 (by decide) (by kernel_rfl); unfold isV at d19; have d20 := hd 20 (by decide) (by kernel_rfl); simp only [TR, Nat.reduceAdd, Nat.reduceSub, List.getD_cons_zero, List.getD_cons_succ] at d20; have d22 : isV _ (vs 22) w := hd 22 (by decide) (by kernel_rfl); unfold isV at d22; clear hd; simp only [List.take, putL, Act.put, List.setIfInBounds_toArray, List.set_cons_zero, List.set_cons_succ]; unfold StepOK; go_simp; exact ⟨Below.refl _ _, isV_mk _ _⟩
  refine RunN.store (by decide) ((fun w => JCut W.heap.size base p D F g c es k e n w)) (fun _ _ _ hb hj => JCut_below hj hb) ?_ ?_
  · intro vs w hb hd hj; have d0 : isV _ (vs 0) w := hd 0 (by decide) (by kernel_rfl); unfold isV at d0; have d1 : isV _ (vs 1) w := hd 1 (by decide) (by kernel_rfl); unfold isV at d1; have d2 : isV _ (vs 2) w := hd 2 (by decide) (by kernel_rfl); unfold isV at d2; have d3 : isV _ (vs 3) w := hd 3 (by decide) (by kernel_rfl); unfold isV at d3; have d4 : isV _ (vs 4) w := hd 4 (by decide) (by kernel_rfl); unfold isV at d4; have d8 : isV _ (vs 8) w := hd 8 (by decide) (by kernel_rfl); unfold isV at d8; have d10 : isV _ (vs 10) w := hd 10 (by decide) (by kernel_rfl); unfold isV at d10; have d11 : isV _ (vs 11) w := hd 11 (by decide) (by kernel_rfl); unfold isV at d11; have d12 : isV _ (vs 12) w := hd 12 (by decide) (by kernel_rfl); unfold isV at d12; have d13 : isV _ (vs 13) w := hd 13 (by decide) (by kernel_rfl); unfold isV at d13; have d14 : isV _ (vs 14) w := hd 14 (by decide) (by kernel_rfl); unfold isV at d14; have d15 : isV _ (vs 15) w := hd 15 (by decide) (by kernel_rfl); unfold isV at d15; have d16 : isV _ (vs 16) w := hd 16 (by decide) (by kernel_rfl); unfold isV at d16; have d17 : isV _ (vs 17) w := hd 17 (by decide) (by kernel_rfl); unfold isV at d17; have d18 : isV _ (vs 18) w := hd 18 (by decide) (by kernel_rfl); unfold isV at d18; have d19 : isV _ (vs 19) w := hd 19 (by decide) (by kernel_rfl); unfold isV at d19; have d20 := hd 20 (by decide) (by kernel_rfl); simp only [TR, Nat.reduceAdd, Nat.reduceSub, List.getD_cons_zero, List.getD_cons_succ] at d20; have d23 : isV _ (vs 23) w := hd 23 (by decide) (by kernel_rfl); unfold isV at d23; clear hd; have hj2 := hj; (try simp only [prevE, lastV, List.mem_cons, List.not_mem_nil, or_false, Nat.reduceEqDiff, Nat.reduceAdd, if_true, if_false, reduceIte, or_true, true_or, or_self] at hj2); clear hj; obtain ⟨A', c', e20, o20⟩ := isCl_elim d20; obtain ⟨q0, q1, q2, q3⟩ := cut_first hj2.2 he hn o20 hb.size; simp only [List.take, putL, Act.put, List.setIfInBounds_toArray, List.set_cons_zero, List.set_cons_succ]; unfold StepE; go_simp; (try exact ⟨q2, q3⟩)
  apply RunN.pure (by decide)
  · intro vs w hb hd; have d0 : isV _ (vs 0) w := hd 0 (by decide) (by kernel_rfl); unfold isV at d0; have d1 : isV _ (vs 1) w := hd 1 (by decide) (by kernel_rfl); unfold isV at d1; have d2 : isV _ (vs 2) w := hd 2 (by decide) (by kernel_rfl); unfold isV at d2; have d3 : isV _ (vs 3) w := hd 3 (by decide) (by kernel_rfl); unfold isV at d3; have d4 : isV _ (vs 4) w := hd 4 (by decide) (by kernel_rfl); unfold isV at d4; have d5 : isV _ (vs 5) w := hd 5 (by decide) (by kernel_rfl); unfold isV at d5; have d6 : isV _ (vs 6) w := hd 6 (by decide) (by kernel_rfl); unfold isV at d6; have d7 : isV _ (vs 7) w := hd 7 (by decide) (by kernel_rfl); unfold isV at d7; have d8 : isV _ (vs 8) w := hd 8 (by decide) (by kernel_rfl); unfold isV at d8; have d9 : isV _ (vs 9) w := hd 9 (by decide) (by kernel_rfl); unfold isV at d9; have d10 : isV _ (vs 10) w := hd 10 (by decide) (by kernel_rfl); unfold isV at d10; have d11 : isV _ (vs 11) w := hd 11 (by decide) (by kernel_rfl); unfold isV at d11; have d12 : isV _ (vs 12) w := hd 12 (by decide) (by kernel_rfl); unfold isV at d12; have d13 : isV _ (vs 13) w := hd 13 (by decide) (by kernel_rfl); unfold isV at d13; have d14 : isV _ (vs 14) w := hd 14 (by decide) (by kernel_rfl); unfold isV at d14; have d15 : isV _ (vs 15) w := hd 15 (by decide) (by kernel_rfl); unfold isV at d15; have d16 : isV _ (vs 16) w := hd 16 (by decide) (by kernel_rfl); unfold isV at d16; have d17 : isV _ (vs 17) w := hd 17 (by decide) (by kernel_rfl); unfold isV at d17; have d18 : isV _ (vs 18) w := hd 18 (by decide) (by kernel_rfl); unfold isV at d18; have d19 : isV _ (vs 19) w := hd 19 (by decide) (by kernel_rfl); unfold isV at d19; have d20 := hd 20 (by decide) (by kernel_rfl); simp only [TR, Nat.reduceAdd, Nat.reduceSub, List.getD_cons_zero, List.getD_cons_succ] at d20; have d21 : isV _ (vs 21) w := hd 21 (by decide) (by kernel_rfl); unfold isV at d21; have d22 : isV _ (vs 22) w := hd 22 (by decide) (by kernel_rfl); unfold isV at d22; have d23 : isV _ (vs 23) w := hd 23 (by decide) (by kernel_rfl); unfold isV at d23; clear hd; simp only [List.take, putL, Act.put, List.setIfInBounds_toArray, List.set_cons_zero, List.set_cons_succ]; unfold StepOK; go_simp; exact ⟨Below.refl _ _, isV_mk _ _⟩
  apply RunN.pure (by decide)
  · intro vs w hb hd; have d0 : isV _ (vs 0) w := hd 0 (by decide) (by kernel_rfl); unfold isV at d0; have d1 : isV _ (vs 1) w := hd 1 (by decide) (by kernel_rfl); unfold isV at d1; have d2 : isV _ (vs 2) w := hd 2 (by decide) (by kernel_rfl); unfold isV at d2; have d3 : isV _ (vs 3) w := hd 3 (by decide) (by kernel_rfl); unfold isV at d3; have d4 : isV _ (vs 4) w := hd 4 (by decide) (by kernel_rfl); unfold isV at d4; have d5 : isV _ (vs 5) w := hd 5 (by decide) (by kernel_rfl); unfold isV at d5; have d6 : isV _ (vs 6) w := hd 6 (by decide) (by kernel_rfl); unfold isV at d6; have d7 : isV _ (vs 7) w := hd 7 (by decide) (by kernel_rfl); unfold isV at d7; have d8 : isV _ (vs 8) w := hd 8 (by decide) (by kernel_rfl); unfold isV at d8; have d9 : isV _ (vs 9) w := hd 9 (by decide) (by kernel_rfl); unfold isV at d9; have d10 : isV _ (vs 10) w := hd 10 (by decide) (by kernel_rfl); unfold isV at d10; have d11 : isV _ (vs 11) w := hd 11 (by decide) (by kernel_rfl); unfold isV at d11; have d12 : isV _ (vs 12) w := hd 12 (by decide) (by kernel_rfl); unfold isV at d12; have d13 : isV _ (vs 13) w := hd 13 (by decide) (by kernel_rfl); unfold isV at d13; have d14 : isV _ (vs 14) w := hd 14 (by decide) (by kernel_rfl); unfold isV at d14; have d15 : isV _ (vs 15) w := hd 15 (by decide) (by kernel_rfl); unfold isV at d15; have d16 : isV _ (vs 16) w := hd 16 (by decide) (by kernel_rfl); unfold isV at d16; have d17 : isV _ (vs 17) w := hd 17 (by decide) (by kernel_rfl); unfold isV at d17; have d18 : isV _ (vs 18) w := hd 18 (by decide) (by kernel_rfl); unfold isV at d18; have d19 : isV _ (vs 19) w := hd 19 (by decide) (by kernel_rfl); unfold isV at d19; have d20 := hd 20 (by decide) (by kernel_rfl); simp only [TR, Nat.reduceAdd, Nat.reduceSub, List.getD_cons_zero, List.getD_cons_succ] at d20; have d21 : isV _ (vs 21) w := hd 21 (by decide) (by kernel_rfl); unfold isV at d21; have d22 : isV _ (vs 22) w := hd 22 (by decide) (by kernel_rfl); unfold isV at d22; have d23 : isV _ (vs 23) w := hd 23 (by decide) (by kernel_rfl); unfold isV at d23; have d25 : isV _ (vs 25) w := hd 25 (by decide) (by kernel_rfl); unfold isV at d25; clear hd; simp only [List.take, putL, Act.put, List.setIfInBounds_toArray, List.set_cons_zero, List.set_cons_succ]; unfold StepOK; go_simp; exact ⟨Below.refl _ _, isV_mk _ _⟩
  refine RunN.store (by decide) ((fun w => ∃ F', DkIs w base p { D with fs := D.fs.set k ⟨e.f.nm, e.f.b.take n, n⟩ } F' ∧ ∀ q, F' q → F q ∨ W.heap.size ≤ q)) (fun _ _ _ hb ⟨F2, h1, h2⟩ => ⟨F2, h1.below hb, h2⟩) ?_ ?_
  · intro vs w hb hd hj; have d0 : isV _ (vs 0) w := hd 0 (by decide) (by kernel_rfl); unfold isV at d0; have d1 : isV _ (vs 1) w := hd 1 (by decide) (by kernel_rfl); unfold isV at d1; have d2 : isV _ (vs 2) w := hd 2 (by decide) (by kernel_rfl); unfold isV at d2; have d3 : isV _ (vs 3) w := hd 3 (by decide) (by kernel_rfl); unfold isV at d3; have d4 : isV _ (vs 4) w := hd 4 (by decide) (by kernel_rfl); unfold isV at d4; have d5 : isV _ (vs 5) w := hd 5 (by decide) (by kernel_rfl); unfold isV at d5; have d6 : isV _ (vs 6) w := hd 6 (by decide) (by kernel_rfl); unfold isV at d6; have d7 : isV _ (vs 7) w := hd 7 (by decide) (by kernel_rfl); unfold isV at d7; have d8 : isV _ (vs 8) w := hd 8 (by decide) (by kernel_rfl); unfold isV at d8; have d9 : isV _ (vs 9) w := hd 9 (by decide) (by kernel_rfl); unfold isV at d9; have d10 : isV _ (vs 10) w := hd 10 (by decide) (by kernel_rfl); unfold isV at d10; have d11 : isV _ (vs 11) w := hd 11 (by decide) (by kernel_rfl); unfold isV at d11; have d12 : isV _ (vs 12) w := hd 12 (by decide) (by kernel_rfl); unfold isV at d12; have d13 : isV _ (vs 13) w := hd 13 (by decide) (by kernel_rfl); unfold isV at d13; have d14 : isV _ (vs 14) w := hd 14 (by decide) (by kernel_rfl); unfold isV at d14; have d15 : isV _ (vs 15) w := hd 15 (by decide) (by kernel_rfl); unfold isV at d15; have d16 : isV _ (vs 16) w := hd 16 (by decide) (by kernel_rfl); unfold isV at d16; have d17 : isV _ (vs 17) w := hd 17 (by decide) (by kernel_rfl); unfold isV at d17; have d18 : isV _ (vs 18) w := hd 18 (by decide) (by kernel_rfl); unfold isV at d18; have d19 : isV _ (vs 19) w := hd 19 (by decide) (by kernel_rfl); unfold isV at d19; have d20 := hd 20 (by decide) (by kernel_rfl); simp only [TR, Nat.reduceAdd, Nat.reduceSub, List.getD_cons_zero, List.getD_cons_succ] at d20; have d21 : isV _ (vs 21) w := hd 21 (by decide) (by kernel_rfl); unfold isV at d21; have d22 : isV _ (vs 22) w := hd 22 (by decide) (by kernel_rfl); unfold isV at d22; have d23 : isV _ (vs 23) w := hd 23 (by decide) (by kernel_rfl); unfold isV at d23; have d26 : isV _ (vs 26) w := hd 26 (by decide) (by kernel_rfl); unfold isV at d26; clear hd; have hj2 := hj; (try simp only [prevE, lastV, List.mem_cons, List.not_mem_nil, or_false, Nat.reduceEqDiff, Nat.reduceAdd, if_true, if_false, reduceIte, or_true, true_or, or_self] at hj2); clear hj; obtain ⟨q0, q1, q2, q3⟩ := JCut_store hj2 he hn HFB.out; simp only [List.take, putL, Act.put, List.setIfInBounds_toArray, List.set_cons_zero, List.set_cons_succ]; unfold StepE; go_simp; (try exact ⟨q2, q3⟩)
  intro vs w1 hb hd hj
  try simp only [prevE, lastV, List.mem_cons, List.not_mem_nil, or_false, Nat.reduceEqDiff, Nat.reduceAdd, if_true, if_false, reduceIte, or_true, true_or, or_self] at hj
  have e0 : isV _ (vs 0) w1 := hd 0 (by decide)
  have e1 : isV _ (vs 1) w1 := hd 1 (by decide)
  have e2 : isV _ (vs 2) w1 := hd 2 (by decide)
  have e3 : isV _ (vs 3) w1 := hd 3 (by decide)
  have e4 : isV _ (vs 4) w1 := hd 4 (by decide)
  have e5 : isV _ (vs 5) w1 := hd 5 (by decide)
  have e6 : isV _ (vs 6) w1 := hd 6 (by decide)
  have e7 : isV _ (vs 7) w1 := hd 7 (by decide)
  have e8 : isV _ (vs 8) w1 := hd 8 (by decide)
  have e9 : isV _ (vs 9) w1 := hd 9 (by decide)
  have e10 : isV _ (vs 10) w1 := hd 10 (by decide)
  have e11 : isV _ (vs 11) w1 := hd 11 (by decide)
  have e12 : isV _ (vs 12) w1 := hd 12 (by decide)
  have e13 : isV _ (vs 13) w1 := hd 13 (by decide)
  have e14 : isV _ (vs 14) w1 := hd 14 (by decide)
  have e15 : isV _ (vs 15) w1 := hd 15 (by decide)
  have e16 : isV _ (vs 16) w1 := hd 16 (by decide)
  have e17 : isV _ (vs 17) w1 := hd 17 (by decide)
  have e18 : isV _ (vs 18) w1 := hd 18 (by decide)
  have e19 : isV _ (vs 19) w1 := hd 19 (by decide)
  have e20 := hd 20 (by decide); simp only [TR, Nat.reduceAdd, Nat.reduceSub, List.getD_cons_zero, List.getD_cons_succ] at e20
  have e21 : isV _ (vs 21) w1 := hd 21 (by decide)
  have e22 : isV _ (vs 22) w1 := hd 22 (by decide)
  have e23 : isV _ (vs 23) w1 := hd 23 (by decide)
  have e25 : isV _ (vs 25) w1 := hd 25 (by decide)
  have e26 : isV _ (vs 26) w1 := hd 26 (by decide)
  clear hd
  unfold isV at e0 e1 e2 e3 e4 e5 e6 e7 e8 e9 e10 e11 e12 e13 e14 e15 e16 e17 e18 e19 e21 e22 e23 e25 e26
  simp only [putL, Act.put, List.setIfInBounds_toArray, List.set_cons_zero, List.set_cons_succ, e0, e1, e2, e3, e4, e5, e6, e7, e8, e9, e10, e11, e12, e13, e14, e15, e16, e17, e18, e19, e21, e22, e23, e25, e26]
  clear e0 e1 e2 e3 e4 e5 e6 e7 e8 e9 e10 e11 e12 e13 e14 e15 e16 e17 e18 e19 e21 e22 e23 e25 e26
  --@end
  obtain ⟨F2, hj1, hj2⟩ := hj
  have Hj := Lib.hid hj1
  have Hb := Lib.hid (show Cg F F2 W w1 from (Cg.mono (F' := F) ⟨hb.os, hb.tape, hb.output, hb.size, fun q hq hf => hb.block q hq (fun e2 => hf (by unfold Gk at e2; rw [e2]; exact HFp.out)), fun q hq => .inl hq⟩ hj2))
  clear hj1 hj2 hb
  go_wp2_with fail
  go_end0
  exact ⟨rfl, F2, Hj.out, Hb.out⟩
end
end Go.Proofs.YtemegkapmgcffaaGreat

/- The disk: Cut, whole. -/
namespace Go.Proofs.YtemegkapmgcffaaGreat
open Go.RowKit
set_option linter.unusedSimpArgs false
set_option linter.unusedVariables false

def mayCut (n : Int) (m : Nat) : Int := if n < 0 ∨ (m : Int) < n then 2 else 0
set_option maxRecDepth 100000 in
set_option maxHeartbeats 2000000 in
theorem cut1_any (s : Value) (A : Option Addr) (m c : Nat) (z : Value) (n : Int) (nb : Nat) (w : World) (hnb : w.cell? ⟨nb, 0, none⟩ = some (.int .i64 n)) :
    Calls Tryz.prog 54 #[.agg #[s, .slice A m c, z], .pointer (some ⟨nb, 0, none⟩)] w fun x w' => x = .returned (.int .i64 (mayCut n m)) ∧ Below w.heap.size w w' := by
  have hb := below_alloc1 w (.cells #[s, .slice A m c, z] 79)
  have hc1 : (w.alloc (.cells #[s, .slice A m c, z] 79)).cell? ⟨nb, 0, none⟩ = some (.int .i64 n) := box_kept (Cg.below (F := fun _ => False) hb) hnb (fun h => h)
  have HM := Lib.hid (show mayCut n m = if n < 0 ∨ (m : Int) < n then 2 else 0 from rfl)
  have Hb := Lib.hid hb
  clear hnb hb
  go_enter Tryz.func54, Tryz.ntmps54
  by_cases h0 : n < 0
  · have h1 : decide (n < 0) = true := by simpa using h0
    go_wp2_with fail
    go_ret
    exact ⟨by rw [HM.out, if_pos (.inl h0)]; rfl, Hb.out⟩
  · by_cases h2 : (m : Int) < n
    · have h1 : decide (n < 0) = false := by simpa using h0
      have h3 : decide ((m : Int) < n) = true := by simpa using h2
      go_wp2_with fail
      go_ret
      exact ⟨by rw [HM.out, if_pos (.inr h2)]; rfl, Hb.out⟩
    · have h1 : decide (n < 0) = false := by simpa using h0
      have h3 : decide ((m : Int) < n) = false := by simpa using h2
      go_wp2_with fail
      go_ret
      exact ⟨by rw [HM.out, if_neg (by omega)]; rfl, Hb.out⟩
theorem ent_cut1 (a : Array Value) (w : World) : (callFunc 54 a).run Tryz.prog w = .ok (.enter 54 a) w := by kernel_rfl
theorem ent_cut2 (a : Array Value) (w : World) : (callFunc 55 a).run Tryz.prog w = .ok (.enter 55 a) w := by kernel_rfl
theorem app12 (a b c : Value) : (#[a] ++ #[b, c] : Array Value) = #[a, b, c] := rfl
section
variable {w : World} {base p : Nat} {D : Dk} {F : Nat → Prop} {R : Option Addr} {c : Nat} {es : List FE}
set_option maxRecDepth 100000 in
set_option maxHeartbeats 4000000 in
theorem Cut_any (h : DkIs w base p D F) (nm : Nm) (n : Int) :
    Calls Tryz.prog 16 #[.pointer (some ⟨p, 0, none⟩), .string (bstr nm), .int .i64 n] w fun x w' => x = .returned (.int .i64 (cutD D nm n).1) ∧ ∃ F', DkIs w' base p (cutD D nm n).2 F' ∧ Cg F F' w w' := by
  obtain ⟨R, c, es, h⟩ := h
  have hmf : ∀ (fn : Fn) (first cap : Array Value) (w : World), (Instr.makeFunc fn first cap).run Tryz.prog w = .ok (.func fn first cap) w := fun _ _ _ _ => rfl
  obtain ⟨W0, hW0⟩ : ∃ W0, W0 = w.alloc (.cells #[.pointer (some ⟨p, 0, none⟩)] 24) := ⟨_, rfl⟩
  obtain ⟨W1, hW1⟩ : ∃ W1, W1 = W0.alloc (.cells #[.int .i64 n] 3) := ⟨_, rfl⟩
  have hs0 : W0.heap.size = w.heap.size + 1 := by rw [hW0]; simp
  have hb0 : Below w.heap.size w W0 := by rw [hW0]; exact below_alloc1 _ _
  have hb01 : Below W0.heap.size W0 W1 := by rw [hW1]; exact below_alloc1 _ _
  have hb : Below w.heap.size w W1 := hb0.trans (hb01.mono (by omega))
  have h1 := h.below hb
  have hnbx : ¬ F w.heap.size := fun hf => by have := (h.bound _ hf).2; omega
  have hnnb : ¬ F W0.heap.size := fun hf => by have := (h.bound _ hf).2; omega
  have hbx : W1.cell? ⟨w.heap.size, 0, none⟩ = some (.pointer (some ⟨p, 0, none⟩)) := box_kept (Cg.below (F := fun _ => False) hb01) (by rw [hW0]; exact box_new w _ _) (fun h => h)
  have hnb : W1.cell? ⟨W0.heap.size, 0, none⟩ = some (.int .i64 n) := by rw [hW1]; exact box_new W0 _ _
  have hsz : W0.heap.size = w.heap.size + 1 := hs0
  have Hb := Lib.hid hb
  have H1 := Lib.hid h1
  have Hsy := Lib.hid (show ∀ e w1, es[posF D.fs nm]? = some e → mayCut n e.f.b.length = 0 → DI w1 base p (burnt D) F R c es → Cg F F W1 w1 → Calls Tryz.prog 55 (#[.int .i64 (posF D.fs nm : Int)] ++ #[.pointer (some ⟨w.heap.size, 0, none⟩), .pointer (some ⟨w.heap.size + 1, 0, none⟩)]) w1 fun x w' => x = .returned (.tuple #[]) ∧ ∃ f F', D.fs[posF D.fs nm]? = some f ∧ DkIs w' base p { burnt D with fs := D.fs.set (posF D.fs nm) ⟨f.nm, f.b.take n.toNat, n.toNat⟩ } F' ∧ Cg F F' W1 w' from fun e w1 he hm h5 hc5 => by
    rw [app12, ← hs0]
    have hn : 0 ≤ n ∧ n ≤ (e.f.b.length : Int) := by
      unfold mayCut at hm
      split at hm
      · cases hm
      · omega
    have hn2 : ((n.toNat : Nat) : Int) = n := Int.toNat_of_nonneg hn.1
    exact (cut2_any h5 (box_kept hc5 hbx hnbx) hnbx (n := n.toNat) (box_kept hc5 (by rw [hn2]; exact hnb) hnnb) hnnb he (by omega)).mono (fun x w' ⟨k1, F2, k2, k3⟩ => ⟨k1, e.f, F2, H1.out.fsAt he, k2, hc5.trans k3⟩))
  have Hal := Lib.hid (show ∀ (e : FE) (w1 : World), Below W1.heap.size W1 w1 → Calls Tryz.prog 54 (#[.agg #[.string (bstr e.f.nm), .slice e.A e.f.b.length e.c, .int .i64 e.f.safe]] ++ #[.pointer (some ⟨w.heap.size + 1, 0, none⟩)]) w1 fun x w' => x = .returned (.int .i64 (mayCut n e.f.b.length)) ∧ Below w1.heap.size w1 w' from fun e w1 hb1 => by
    rw [app2, ← hs0]
    exact cut1_any _ _ _ _ _ _ _ w1 (box_kept (Cg.below (F := fun _ => False) hb1) hnb (fun h => h)))
  have HW1 := Lib.hid (show (w.alloc (.cells #[.pointer (some ⟨p, 0, none⟩)] 24)).alloc (.cells #[.int .i64 n] 3) = W1 by rw [hW1, hW0])
  have hx1 : ((w.alloc (.cells #[.pointer (some ⟨p, 0, none⟩)] 24)).alloc (.cells #[.int .i64 n] 3)).cell? ⟨w.heap.size, 0, none⟩ = some (.pointer (some ⟨p, 0, none⟩)) := by rw [HW1.out]; exact hbx
  clear h1 hb h hb0 hb01 hbx hnb hnbx hnnb hsz hs0 hW1 hW0
  go_enter Tryz.func16, Tryz.ntmps16
  go_wp2_with fail
  rw [HW1.out]
  refine (of_any H1.out nm 54 55 #[.pointer (some ⟨w.heap.size + 1, 0, none⟩)] #[.pointer (some ⟨w.heap.size, 0, none⟩), .pointer (some ⟨w.heap.size + 1, 0, none⟩)] (fun f => mayCut n f.b.length) (fun w' => ∃ f F', D.fs[posF D.fs nm]? = some f ∧ DkIs w' base p { burnt D with fs := D.fs.set (posF D.fs nm) ⟨f.nm, f.b.take n.toNat, n.toNat⟩ } F' ∧ Cg F F' W1 w') ent_cut1 ent_cut2 (fun e w1 _ hb => Hal.out e w1 hb) (fun e w1 he _ _ _ hm _ h5 hc5 => Hsy.out e w1 he hm h5 hc5)).mono ?_
  rintro x w6 hx
  obtain ⟨rfl, F', k1, k2⟩ := of_law H1.out (may := fun f => mayCut n f.b.length) (act := fun i f => D.fs.set i ⟨f.nm, f.b.take n.toNat, n.toNat⟩) hx
  have K1 := Lib.hid k1
  have K2 := Lib.hid ((Cg.below Hb.out).trans k2)
  clear hx k1 k2
  go_wp2_with fail
  go_ret
  exact ⟨rfl, F', K1.out, K2.out⟩
end
end Go.Proofs.YtemegkapmgcffaaGreat

/- The disk, plain: a file set in at its place, a file moved. -/
namespace Go.Proofs.YtemegkapmgcffaaGreat
open Go.RowKit
set_option linter.unusedSimpArgs false
set_option linter.unusedVariables false

theorem ins_get {fs : List Fl} {i : Nat} (f : Fl) (hi : i ≤ fs.length) (j : Nat) : (insF fs i f)[j]? = if j < i then fs[j]? else if j = i then some f else fs[j - 1]? := by
  unfold insF
  rw [List.getElem?_append, List.length_take, Nat.min_eq_left hi]
  split
  · rename_i h
    rw [List.getElem?_take, if_pos h]
  · rename_i h
    split
    · rename_i h2
      subst h2
      simp
    · rename_i h2
      obtain ⟨m, rfl⟩ : ∃ m, j = i + m + 1 := ⟨j - i - 1, by omega⟩
      rw [show i + m + 1 - i = m + 1 by omega, List.getElem?_cons_succ, List.getElem?_drop]
      rfl
theorem low_of {fs : List Fl} (hs : SrtF fs) {tn : Nm} (ht : thereF fs tn = false) {j : Nat} {y : Fl} (hj : posF fs tn ≤ j) (hy : fs[j]? = some y) : Op.bytesLess tn y.nm = true := by
  have hlt := (List.getElem?_eq_some_iff.1 hy).1
  obtain ⟨z, hz⟩ : ∃ z, fs[posF fs tn]? = some z := ⟨_, List.getElem?_eq_getElem (by omega)⟩
  have h1 : Op.bytesLess tn z.nm = true := by
    cases hb : Op.bytesLess tn z.nm with
    | true => rfl
    | false => exact absurd (bl_tri (posF_at hz) hb) (there_not hs ht z (List.mem_of_getElem? hz))
  rcases Nat.lt_or_ge (posF fs tn) j with h | h
  · exact bl_trans h1 (hs _ _ z y h hz hy)
  · obtain rfl : j = posF fs tn := by omega
    rw [hz] at hy
    cases hy
    exact h1
theorem srt_ins {fs : List Fl} (hs : SrtF fs) {tn : Nm} {f : Fl} (hn : f.nm = tn) (ht : thereF fs tn = false) : SrtF (insF fs (posF fs tn) f) := by
  have hp := posF_le fs tn
  intro i j x y hij hx hy
  rw [ins_get f hp] at hx hy
  split at hx
  · rename_i h1
    split at hy
    · exact hs _ _ x y hij hx hy
    · split at hy
      · cases hy
        rw [hn]
        exact posF_low h1 hx
      · exact hs _ _ x y (by omega) hx hy
  · rename_i h1
    rw [if_neg (by omega), if_neg (by omega)] at hy
    split at hx
    · cases hx
      rw [hn]
      exact low_of hs ht (by omega) hy
    · exact hs _ _ x y (by omega) hx hy
theorem used_ins (fs : List Fl) (i : Nat) (f : Fl) : usedF (insF fs i f) = usedF fs + f.b.length := by
  have h : usedF fs = usedF (fs.take i) + usedF (fs.drop i) := by
    unfold usedF
    rw [← List.sum_append, ← List.map_append, List.take_append_drop]
  rw [h]
  unfold usedF insF
  rw [List.map_append, List.sum_append, List.map_cons, List.sum_cons]
  omega
theorem used_erase_eq : ∀ {fs : List Fl} {k : Nat} {f : Fl}, fs[k]? = some f → usedF (fs.eraseIdx k) + f.b.length = usedF fs := by
  intro fs
  induction fs with
  | nil => intro k f h; simp at h
  | cons x r ih =>
    intro k f h
    cases k with
    | zero =>
      simp at h; subst h
      simp [usedF]; omega
    | succ k =>
      have := ih (k := k) (f := f) (by simpa using h)
      simp [usedF] at this ⊢
      omega
theorem Good.ins {D : Dk} (h : Good D) {f : Fl} (ht : thereF D.fs f.nm = false) (hl : D.fs.length < 200) (hu : (usedF D.fs : Int) + f.b.length ≤ D.room) (hs : f.safe ≤ f.b.length) (hn : f.nm.length ≤ 60) : Good { D with fs := insF D.fs (posF D.fs f.nm) f } := by
  have hm : ∀ x, x ∈ insF D.fs (posF D.fs f.nm) f → x ∈ D.fs ∨ x = f := by
    intro x hx
    unfold insF at hx
    simp only [List.mem_append, List.mem_cons] at hx
    rcases hx with hx | rfl | hx
    · exact .inl (List.mem_of_mem_take hx)
    · exact .inr rfl
    · exact .inl (List.mem_of_mem_drop hx)
  refine ⟨srt_ins h.srt rfl ht, h.room, h.fuse, ?_, fun x hx => ?_, ?_, fun x hx => ?_⟩
  · have := posF_le D.fs f.nm
    unfold insF
    simp only [List.length_append, List.length_take, List.length_cons, List.length_drop]
    omega
  · rcases hm x hx with h1 | rfl
    · exact h.safe x h1
    · exact hs
  · simp only [used_ins]
    omega
  · rcases hm x hx with h1 | rfl
    · exact h.nms x h1
    · exact hn
theorem Good.move {D : Dk} (h : Good D) {k : Nat} {f : Fl} (hf : D.fs[k]? = some f) {tn : Nm} (hn : tn.length ≤ 60) : Good { D with fs := moveF D.fs k f tn } := by
  have he := h.erase k
  have hu := used_erase_eq hf
  have hk := (List.getElem?_eq_some_iff.1 hf).1
  have hl := List.length_eraseIdx_of_lt hk
  have hsf := h.safe f (List.mem_of_getElem? hf)
  have hus := h.used
  unfold moveF
  split
  · rename_i ht
    obtain ⟨x, hx, hxn⟩ := there_true ht
    have hu2 := used_set (f' := ⟨tn, f.b, f.safe⟩) hx
    simp only at hu2
    refine ⟨srt_set he.srt hx hxn.symm, h.room, h.fuse, by simp only [List.length_set]; exact he.few, fun y hy => ?_, ?_, fun y hy => ?_⟩
    · rcases List.mem_or_eq_of_mem_set hy with h1 | rfl
      · exact he.safe y h1
      · exact hsf
    · simp only
      omega
    · rcases List.mem_or_eq_of_mem_set hy with h1 | rfl
      · exact he.nms y h1
      · exact hn
  · rename_i ht
    have hfe := h.few
    exact he.ins (f := ⟨tn, f.b, f.safe⟩) (by simpa using ht) (by simp only; omega) (by simp only; omega) hsf hn
end Go.Proofs.YtemegkapmgcffaaGreat

/- The disk: Rename. -/
namespace Go.Proofs.YtemegkapmgcffaaGreat
open Go.RowKit
set_option linter.unusedSimpArgs false
set_option linter.unusedVariables false

theorem sl_nilF (w : World) : Sl w 1 none ([] : List UInt8).length 0 (bytesV []) := ⟨fun j u hj => by simp [bytesV] at hj, rfl, Nat.le_refl _, fun _ => ⟨rfl, rfl⟩⟩
def Gr (R : Option Addr) : Nat → Prop := fun q => ∃ r, R = some r ∧ q = r.block
theorem DI.newrow {W w5 : World} {base p : Nat} {D : Dk} {F : Nat → Prop} {R A' : Option Addr} {c c' : Nat} {es es' : List FE} (h : DI W base p D F R c es) (hc : Cg (Gr R) (Gr R) W w5)
    (hrow : Own base 79 3 w5 A' es'.length c' (flatFE es')) (hlie : ∀ a, A' = some a → (∃ r, R = some r ∧ r.block = a.block) ∨ W.heap.size ≤ a.block)
    (hmem : ∀ x, x ∈ es' → (∃ y, y ∈ es ∧ x.A = y.A ∧ x.c = y.c ∧ x.f.b = y.f.b) ∨ (x.A = none ∧ x.c = 0 ∧ x.f.b = [])) (hgd : Good { D with fs := es'.map FE.f }) :
    w5.cell? ⟨p, 0, none⟩ = some (.slice R es.length c) ∧ w5.frozen? ⟨p, 0, none⟩ = false ∧
      ∃ F', DI (w5.setCell ⟨p, 0, none⟩ (.slice A' es'.length c')) base p { D with fs := es'.map FE.f } F' A' c' es' ∧ Cg F F' W (w5.setCell ⟨p, 0, none⟩ (.slice A' es'.length c')) := by
  have hpl := h.plt
  have hGp : ¬ Gr R p := fun ⟨r, h1, h2⟩ => (h.fr r h1).2 h2.symm
  have ho := own_same h.own (w' := w5) (fun a ha => by cases ha; exact hc.block _ hpl.2 hGp)
  have k0 := World.ownsRow.cellAt ho 0 (by omega)
  simp only [dkC, List.getElem?_cons_zero] at k0
  have st := World.ownsRow.stored ho 0 (.slice A' es'.length c')
  have hAp : ∀ a, A' = some a → a.block ≠ p := fun a ha => by
    rcases hlie a ha with ⟨r, h1, h2⟩ | h1
    · rw [← h2]; exact (h.fr r h1).2
    · omega
  have hF5 : Cg F F W w5 := ⟨hc.os, hc.tape, hc.output, hc.size, fun q hq hf => hc.block q hq (fun ⟨r, h1, h2⟩ => hf (by rw [h2]; exact (h.fr r h1).1)), fun q hq => .inl hq⟩
  refine ⟨k0, World.ownsRow.frozenAt ho 0, fun q => F q ∨ ∃ a, A' = some a ∧ q = a.block, ⟨?_, ?_, fun x hx => ?_, rfl, hgd, .inl h.fp, fun a ha => ⟨.inr ⟨a, ha, rfl⟩, hAp a ha⟩, fun q hq => ?_⟩, ?_⟩
  · have := st.1
    unfold Own
    exact this
  · exact own_same hrow (fun a ha => st.2.block _ (own_lt hrow a ha).2 (fun e2 => hAp a ha (Option.some.inj e2)))
  · rcases hmem x hx with ⟨y, hy, e1, e2, e3⟩ | ⟨e1, e2, e3⟩
    · have hey := h.each y hy
      rw [e1, e2, e3]
      refine ⟨sl_same hey.1 (fun a ha => ?_), fun a ha => ⟨.inl (hey.2 a ha).1, (hey.2 a ha).2.1, fun r hr => ?_⟩⟩
      · have hlt := (h.bound _ (hey.2 a ha).1).2
        exact (st.2.block _ (Nat.lt_of_lt_of_le hlt hc.size) (fun e4 => (hey.2 a ha).2.1 (Option.some.inj e4))).trans (hc.block _ hlt (fun ⟨r, h1, h2⟩ => (hey.2 a ha).2.2 r h1 h2))
      · rcases hlie r hr with ⟨r2, h1, h2⟩ | h1
        · rw [← h2]; exact (hey.2 a ha).2.2 r2 h1
        · have := (h.bound _ (hey.2 a ha).1).2; omega
    · rw [e1, e2, e3]
      exact ⟨sl_nilF _, fun a ha => by cases ha⟩
  · rcases hq with hq | ⟨a, ha, rfl⟩
    · have := h.bound q hq
      have := hc.size
      have := st.2.size
      omega
    · have := own_lt hrow a ha
      have := st.2.size
      omega
  · refine (hF5.trans (Cg.grown st.2 h.fp)).mono fun q hq => ?_
    rcases hq with hq | ⟨a, ha, rfl⟩
    · exact .inl hq
    · rcases hlie a ha with ⟨r, h1, h2⟩ | h1
      · exact .inl (by rw [← h2]; exact (h.fr r h1).1)
      · exact .inr h1
theorem flat_set3 {es : List FE} {k : Nat} {e1 : FE} (h : es[k]? = some e1) (e2 : FE) :
    (((flatFE es).set (k * 3) (.string (bstr e2.f.nm))).set (k * 3 + 1) (.slice e2.A e2.f.b.length e2.c)).set (k * 3 + 2) (.int .i64 e2.f.safe) = flatFE (es.set k e2) := by
  have hk := (List.getElem?_eq_some_iff.1 h).1
  have a1 := flat_set (e' := ⟨⟨e2.f.nm, e1.f.b, e1.f.safe⟩, e1.A, e1.c⟩) h 0 (.string (bstr e2.f.nm)) (by omega) rfl
  have h1 : (es.set k ⟨⟨e2.f.nm, e1.f.b, e1.f.safe⟩, e1.A, e1.c⟩)[k]? = some ⟨⟨e2.f.nm, e1.f.b, e1.f.safe⟩, e1.A, e1.c⟩ := List.getElem?_set_self hk
  have a2 := flat_set (e' := ⟨⟨e2.f.nm, e2.f.b, e1.f.safe⟩, e2.A, e2.c⟩) h1 1 (.slice e2.A e2.f.b.length e2.c) (by omega) rfl
  rw [List.set_set] at a2
  have h2 : (es.set k ⟨⟨e2.f.nm, e2.f.b, e1.f.safe⟩, e2.A, e2.c⟩)[k]? = some ⟨⟨e2.f.nm, e2.f.b, e1.f.safe⟩, e2.A, e2.c⟩ := List.getElem?_set_self hk
  have a3 := flat_set (e' := e2) h2 2 (.int .i64 e2.f.safe) (by omega) rfl
  rw [List.set_set] at a3
  rw [a3, a2, a1]
  rfl
theorem flat_ins (es : List FE) (k : Nat) (e2 : FE) : (flatFE es).take (k * 3) ++ ([.string (bstr e2.f.nm), .slice e2.A e2.f.b.length e2.c, .int .i64 e2.f.safe] ++ (flatFE es).drop (k * 3)) = flatFE (es.take k ++ e2 :: es.drop k) := by
  unfold flatFE
  rw [flatMap_take feC 3 (fun _ => rfl), flatMap_drop feC 3 (fun _ => rfl), List.flatMap_append, List.flatMap_cons]
  rfl
section
variable {W : World} {base p : Nat} {D : Dk} {F : Nat → Prop} {R : Option Addr} {c : Nat} {es : List FE}
set_option maxRecDepth 100000 in
set_option maxHeartbeats 8000000 in
theorem ren2_any (h : DI W base p D F R c es) {bx tb : Nat} (hbx : W.cell? ⟨bx, 0, none⟩ = some (.pointer (some ⟨p, 0, none⟩))) (hbF : ¬ F bx) {tn : Nm} (htb : W.cell? ⟨tb, 0, none⟩ = some (.string (bstr tn))) (htF : ¬ F tb) {k : Nat} {e : FE} (he : es[k]? = some e) (htn : tn.length ≤ 60) :
    Calls Tryz.prog 76 #[.int .i64 (k : Int), .pointer (some ⟨bx, 0, none⟩), .pointer (some ⟨tb, 0, none⟩)] W fun x w' => x = .returned (.tuple #[]) ∧ ∃ F', DkIs w' base p { D with fs := moveF D.fs k e.f tn } F' ∧ Cg F F' W w' := by
  obtain ⟨g, rfl⟩ := rowAddr h he
  have hk := (List.getElem?_eq_some_iff.1 he).1
  have hl200 := h.len
  have hfg := h.fr _ rfl
  have hin : (0 : Int) ≤ (k : Int) ∧ (k : Int) < (es.length : Int) := by omega
  have hk3 : k < 200 := by omega
  have hwk : IntKind.i64.wrap ((k : Int) + 1) = (k : Int) + 1 := by rw [IntKind.wrap_i64]; omega
  obtain ⟨c0, c1, c2, c3, c4⟩ := h.cell
  obtain ⟨y0, y1, y2⟩ := slFE_three h.row.sl he
  rw [add_plain] at y0 y1 y2
  simp only [] at y1 y2
  have H := Lib.hid h
  have hb1 := below_alloc1 W (.cells #[.string (bstr e.f.nm), .slice e.A e.f.b.length e.c, .int .i64 e.f.safe] 79)
  have hb2 := below_alloc1 W (.cells #[.string (bstr tn), .slice e.A e.f.b.length e.c, .int .i64 e.f.safe] 79)
  have hx1 := cellB hb1 htb
  have hx2 := cellB hb2 hbx
  have hx3 := cellB hb2 c0
  have hX := cellB hb2 htb
  have hX4 := cellB hb2 c4
  have h2 := h.below hb2
  have hit : (W.alloc (.cells #[.string (bstr tn), .slice e.A e.f.b.length e.c, .int .i64 e.f.safe] 79)).heap[W.heap.size]? = some (.cells #[.string (bstr tn), .slice e.A e.f.b.length e.c, .int .i64 e.f.safe] 79 (0, 0)) := heap_alloc_new W _
  obtain ⟨W2, hW2⟩ : ∃ W2, W2 = W.alloc (.cells #[.string (bstr tn), .slice e.A e.f.b.length e.c, .int .i64 e.f.safe] 79) := ⟨_, rfl⟩
  have hW2s : W2.heap.size = W.heap.size + 1 := by rw [hW2]; simp
  rw [← hW2] at hX hX4 h2 hb2 hit
  have HX := Lib.hid hX
  have HX4 := Lib.hid hX4
  have H2 := Lib.hid h2
  have Hb2 := Lib.hid hb2
  have HW2 := Lib.hid hW2
  have HB0 := Lib.hid hx2
  have HP0 := Lib.hid hx3
  have Hit := Lib.hid hit
  have HS := Lib.hid hW2s
  have hgW : g < W.heap.size := (h.bound g hfg.1).2
  have hpW := h.plt.2
  clear h c1 c2 c3 c4 hb1 hb2 hX hX4 h2 hW2 hit hW2s
  go_enter Tryz.func76, Tryz.ntmps76
  go_wp2_with fail
  rw [← HW2.out]
  rw [← HW2.out] at HB0 HP0
  refine (delF_any base g es.length c k (flatFE es) W2 H2.out.row (by omega) hk (flatFE_one es)).mono ?_
  rintro x w3 ⟨rfl, hrow, hgr⟩
  rw [flat_erase] at hrow
  clear y0 y1 y2 hx1 hx2 hx3 c0 hwk
  have hbxg : bx ≠ g := fun e2 => hbF (by rw [e2]; exact hfg.1)
  have htbg : tb ≠ g := fun e2 => htF (by rw [e2]; exact hfg.1)
  have HB1 := Lib.hid (cellG hgr HB0.out hbxg)
  have HC4 := Lib.hid (cellG hgr HX4.out (fun e2 => hfg.2 e2.symm))
  have HT1 := Lib.hid (cellG hgr HX.out htbg)
  have HS3 := Lib.hid hrow.sl
  have hfe : (es.eraseIdx k).map FE.f = D.fs.eraseIdx k := by
    rw [← H.out.fs]
    simp [List.eraseIdx_eq_take_drop_succ, List.map_take, List.map_drop]
  have HSo := Lib.hid (show SrtF ((es.eraseIdx k).map FE.f) by rw [hfe]; exact srt_erase H.out.good.srt k)
  obtain ⟨ps, hps⟩ : ∃ ps, ps = posF (D.fs.eraseIdx k) tn := ⟨_, rfl⟩
  obtain ⟨th, hth⟩ : ∃ th, th = thereF (D.fs.eraseIdx k) tn := ⟨_, rfl⟩
  have Hps := Lib.hid (show posF ((es.eraseIdx k).map FE.f) tn = ps by rw [hfe, hps])
  have Hth := Lib.hid (show thereF ((es.eraseIdx k).map FE.f) tn = th by rw [hfe, hth])
  have Hps2 := Lib.hid hps
  have Hth2 := Lib.hid hth
  have Hrow := Lib.hid hrow
  have Hgr := Lib.hid hgr
  have Hfe := Lib.hid hfe
  clear hrow hgr hps hth hfe
  go_upto_region 3 with fail
  --@region 92 3 ren3.spec
  refine wp_region_run (by kernel_rfl) (by kernel_rfl) ?_
  apply RunL.pure
  · intro vs w hb hd; clear hd; have hx1 := cellB hb HB1.out; simp only [List.take, putL, Act.put, List.setIfInBounds_toArray, List.set_cons_zero, List.set_cons_succ]; unfold StepOK; go_simp; exact ⟨Below.refl _ _, isV_mk _ _⟩
  apply RunL.pure
  · intro vs w hb hd; have d0 : isV _ (vs 0) w := hd 0 (by decide) (by kernel_rfl); unfold isV at d0; clear hd; simp only [List.take, putL, Act.put, List.setIfInBounds_toArray, List.set_cons_zero, List.set_cons_succ]; unfold StepOK; go_simp; exact ⟨Below.refl _ _, isV_mk _ _⟩
  apply RunL.pure
  · intro vs w hb hd; have d1 : isV _ (vs 1) w := hd 1 (by decide) (by kernel_rfl); unfold isV at d1; clear hd; simp only [List.take, putL, Act.put, List.setIfInBounds_toArray, List.set_cons_zero, List.set_cons_succ]; unfold StepOK; go_simp; exact ⟨Below.refl _ _, isV_mk _ _⟩
  apply RunL.pure
  · intro vs w hb hd; have d2 : isV _ (vs 2) w := hd 2 (by decide) (by kernel_rfl); unfold isV at d2; clear hd; have hx1 := cellB hb HC4.out; simp only [List.take, putL, Act.put, List.setIfInBounds_toArray, List.set_cons_zero, List.set_cons_succ]; unfold StepOK; go_simp; exact ⟨Below.refl _ _, isV_mk _ _⟩
  apply RunL.pure
  · intro vs w hb hd; clear hd; simp only [List.take, putL, Act.put, List.setIfInBounds_toArray, List.set_cons_zero, List.set_cons_succ]; unfold StepOK; go_simp; exact ⟨Below.refl _ _, isV_mk _ _⟩
  apply RunL.pure
  · intro vs w hb hd; clear hd; have hx1 := cellB hb HT1.out; simp only [List.take, putL, Act.put, List.setIfInBounds_toArray, List.set_cons_zero, List.set_cons_succ]; unfold StepOK; go_simp; exact ⟨Below.refl _ _, isV_mk _ _⟩
  refine RunL.such (isV (.tuple #[.int .i64 (ps : Int), .bool th])) (isV_stable _) ?_ ?_
  · intro vs w hb hd; have d3 : isV _ (vs 3) w := hd 3 (by decide) (by kernel_rfl); unfold isV at d3; have d4 : isV _ (vs 4) w := hd 4 (by decide) (by kernel_rfl); unfold isV at d4; have d5 : isV _ (vs 5) w := hd 5 (by decide) (by kernel_rfl); unfold isV at d5; clear hd; have hs1 := HS3.out.below hb; simp only [List.take, putL, Act.put, List.setIfInBounds_toArray, List.set_cons_zero, List.set_cons_succ]; unfold StepOK; go_simp; exact ⟨Below.refl _ _, such_of_bool (by rw [← Hps.out, ← Hth.out]; exact place_any _ _ _ _ tn w hs1 (by omega) HSo.out)⟩
  apply RunL.pure
  · intro vs w hb hd; have d6 := hd 6 (by decide) (by kernel_rfl); simp only [TR, Nat.reduceAdd, Nat.reduceSub, List.getD_cons_zero, List.getD_cons_succ] at d6; clear hd; unfold isV at d6; simp only [List.take, putL, Act.put, List.setIfInBounds_toArray, List.set_cons_zero, List.set_cons_succ]; unfold StepOK; go_simp; exact ⟨Below.refl _ _, isV_mk _ _⟩
  apply RunL.pure
  · intro vs w hb hd; have d7 : isV _ (vs 7) w := hd 7 (by decide) (by kernel_rfl); unfold isV at d7; clear hd; simp only [List.take, putL, Act.put, List.setIfInBounds_toArray, List.set_cons_zero, List.set_cons_succ]; unfold StepOK; go_simp; exact ⟨Below.refl _ _, isV_mk _ _⟩
  apply RunL.pure
  · intro vs w hb hd; have d7 : isV _ (vs 7) w := hd 7 (by decide) (by kernel_rfl); unfold isV at d7; clear hd; simp only [List.take, putL, Act.put, List.setIfInBounds_toArray, List.set_cons_zero, List.set_cons_succ]; unfold StepOK; go_simp; exact ⟨Below.refl _ _, isV_mk _ _⟩
  apply RunL.pure
  · intro vs w hb hd; have d0 : isV _ (vs 0) w := hd 0 (by decide) (by kernel_rfl); unfold isV at d0; have d1 : isV _ (vs 1) w := hd 1 (by decide) (by kernel_rfl); unfold isV at d1; have d2 : isV _ (vs 2) w := hd 2 (by decide) (by kernel_rfl); unfold isV at d2; have d3 : isV _ (vs 3) w := hd 3 (by decide) (by kernel_rfl); unfold isV at d3; have d4 : isV _ (vs 4) w := hd 4 (by decide) (by kernel_rfl); unfold isV at d4; have d5 : isV _ (vs 5) w := hd 5 (by decide) (by kernel_rfl); unfold isV at d5; have d6 := hd 6 (by decide) (by kernel_rfl); simp only [TR, Nat.reduceAdd, Nat.reduceSub, List.getD_cons_zero, List.getD_cons_succ] at d6; have d7 : isV _ (vs 7) w := hd 7 (by decide) (by kernel_rfl); unfold isV at d7; have d8 : isV _ (vs 8) w := hd 8 (by decide) (by kernel_rfl); unfold isV at d8; clear hd; simp only [List.take, putL, Act.put, List.setIfInBounds_toArray, List.set_cons_zero, List.set_cons_succ]; unfold StepOK; go_simp; exact ⟨Below.refl _ _, isV_mk _ _⟩
  apply RunL.pure
  · intro vs w hb hd; have d0 : isV _ (vs 0) w := hd 0 (by decide) (by kernel_rfl); unfold isV at d0; have d1 : isV _ (vs 1) w := hd 1 (by decide) (by kernel_rfl); unfold isV at d1; have d2 : isV _ (vs 2) w := hd 2 (by decide) (by kernel_rfl); unfold isV at d2; have d3 : isV _ (vs 3) w := hd 3 (by decide) (by kernel_rfl); unfold isV at d3; have d4 : isV _ (vs 4) w := hd 4 (by decide) (by kernel_rfl); unfold isV at d4; have d5 : isV _ (vs 5) w := hd 5 (by decide) (by kernel_rfl); unfold isV at d5; have d6 := hd 6 (by decide) (by kernel_rfl); simp only [TR, Nat.reduceAdd, Nat.reduceSub, List.getD_cons_zero, List.getD_cons_succ] at d6; have d7 : isV _ (vs 7) w := hd 7 (by decide) (by kernel_rfl); unfold isV at d7; have d8 : isV _ (vs 8) w := hd 8 (by decide) (by kernel_rfl); unfold isV at d8; have d9 : isV _ (vs 9) w := hd 9 (by decide) (by kernel_rfl); unfold isV at d9; have d10 : isV _ (vs 10) w := hd 10 (by decide) (by kernel_rfl); unfold isV at d10; clear hd; simp only [List.take, putL, Act.put, List.setIfInBounds_toArray, List.set_cons_zero, List.set_cons_succ]; unfold StepOK; go_simp; exact ⟨Below.refl _ _, isV_mk _ _⟩
  intro vs w1 hb hd
  have e0 : isV _ (vs 0) w1 := hd 0 (by decide)
  have e1 : isV _ (vs 1) w1 := hd 1 (by decide)
  have e2 : isV _ (vs 2) w1 := hd 2 (by decide)
  have e3 : isV _ (vs 3) w1 := hd 3 (by decide)
  have e4 : isV _ (vs 4) w1 := hd 4 (by decide)
  have e5 : isV _ (vs 5) w1 := hd 5 (by decide)
  have e6 := hd 6 (by decide); simp only [TR, Nat.reduceAdd, Nat.reduceSub, List.getD_cons_zero, List.getD_cons_succ] at e6
  have e7 : isV _ (vs 7) w1 := hd 7 (by decide)
  have e8 : isV _ (vs 8) w1 := hd 8 (by decide)
  have e9 : isV _ (vs 9) w1 := hd 9 (by decide)
  have e10 : isV _ (vs 10) w1 := hd 10 (by decide)
  have e11 : isV _ (vs 11) w1 := hd 11 (by decide)
  clear hd
  unfold isV at e0 e1 e2 e3 e4 e5 e7 e8 e9 e10 e11
  simp only [putL, Act.put, List.setIfInBounds_toArray, List.set_cons_zero, List.set_cons_succ, e0, e1, e2, e3, e4, e5, e7, e8, e9, e10, e11]
  clear e0 e1 e2 e3 e4 e5 e7 e8 e9 e10 e11
  --@end
  have hHb := Lib.hid hb
  have hbx4 := cellB hb HB1.out
  have hit4 : w1.heap[W.heap.size]? = some (.cells #[.string (bstr tn), .slice e.A e.f.b.length e.c, .int .i64 e.f.safe] 79 (0, 0)) := by
    have hs3 := Hgr.out.size
    have hsW := HS.out
    rw [hb.block _ (by omega), Hgr.out.block _ (by omega) (fun e2 => by have := Option.some.inj e2; omega)]
    exact Hit.out
  have z0 : w1.cell? ⟨W.heap.size, 0, none⟩ = some (.string (bstr tn)) := by simp [World.cell?, hit4]
  have z1 : w1.cell? ⟨W.heap.size, 1, none⟩ = some (.slice e.A e.f.b.length e.c) := by simp [World.cell?, hit4]
  have z2 : w1.cell? ⟨W.heap.size, 2, none⟩ = some (.int .i64 e.f.safe) := by simp [World.cell?, hit4]
  have Hit4 := Lib.hid hit4
  have Hrow4 := Lib.hid (Hrow.out.below hb)
  clear hb hit4 hbx htb
  cases th with
  | true =>
    obtain ⟨f, hf, hfn⟩ := there_true Hth2.out.symm
    have hpl : ps < es.length - 1 := by
      have h1 := (List.getElem?_eq_some_iff.1 hf).1
      rw [← Hps2.out, ← Hfe.out, List.length_map, List.length_eraseIdx_of_lt hk] at h1
      exact h1
    have hin2 : (0 : Int) ≤ (ps : Int) ∧ (ps : Int) < ((es.length - 1 : Nat) : Int) := by omega
    have hps2 : ps < 200 := by omega
    obtain ⟨n1, hn1⟩ : ∃ n1, n1 = es.length - 1 := ⟨_, rfl⟩
    rw [← hn1] at hin2 hpl
    rw [← hn1]
    have hrow4 := Hrow4.out
    rw [← hn1] at hrow4
    obtain ⟨e1, he1⟩ : ∃ e1, (es.eraseIdx k)[ps]? = some e1 := ⟨_, List.getElem?_eq_getElem (by rw [List.length_eraseIdx_of_lt hk]; omega)⟩
    obtain ⟨y0, y1, y2⟩ := slFE_three hrow4.sl he1
    rw [add_plain] at y0 y1 y2
    simp only [] at y1 y2
    have st1 := World.ownsRow.stored hrow4 (ps * 3) (.string (bstr tn))
    have st2 := World.ownsRow.stored st1.1 (ps * 3 + 1) (.slice e.A e.f.b.length e.c)
    have st3 := World.ownsRow.stored st2.1 (ps * 3 + 2) (.int .i64 e.f.safe)
    have u0 := World.ownsRow.frozenAt hrow4 (ps * 3)
    have u1 := World.ownsRow.frozenAt st1.1 (ps * 3 + 1)
    have u2 := World.ownsRow.frozenAt st2.1 (ps * 3 + 2)
    have u3 := World.ownsRow.frozenAt hrow4 (ps * 3 + 1)
    have u4 := World.ownsRow.frozenAt hrow4 (ps * 3 + 2)
    have HST := Lib.hid (And.intro st3.1 (st1.2.trans (st2.2.trans st3.2)))
    clear st1 st2 st3 hrow4
    go_upto_region 7 with fail
    obtain ⟨Wz, hWz⟩ : ∃ Wz, Wz = ((w1.setCell ⟨g, ps * 3, none⟩ (.string (bstr tn))).setCell ⟨g, ps * 3 + 1, none⟩ (.slice e.A e.f.b.length e.c)).setCell ⟨g, ps * 3 + 2, none⟩ (.int .i64 e.f.safe) := ⟨_, rfl⟩
    have hst := HST.out
    rw [← hWz] at hst
    rw [← hWz]
    have hn2 : ((es.eraseIdx k).set ps ⟨⟨tn, e.f.b, e.f.safe⟩, e.A, e.c⟩).length = n1 := by rw [List.length_set, List.length_eraseIdx_of_lt hk, hn1]
    have hmv : ((es.eraseIdx k).set ps ⟨⟨tn, e.f.b, e.f.safe⟩, e.A, e.c⟩).map FE.f = moveF D.fs k e.f tn := by rw [List.map_set, Hfe.out]; unfold moveF; rw [if_pos Hth2.out.symm, ← Hps2.out]
    have hf3 := flat_set3 he1 ⟨⟨tn, e.f.b, e.f.safe⟩, e.A, e.c⟩
    simp only at hf3
    obtain ⟨q0, q1, F', q2, q3⟩ := H.out.newrow (w5 := Wz) (A' := some ⟨g, 0, none⟩) (c' := c) (es' := (es.eraseIdx k).set ps ⟨⟨tn, e.f.b, e.f.safe⟩, e.A, e.c⟩)
      ((((Cg.below Hb2.out).trans (Cg.grown Hgr.out ⟨_, rfl, rfl⟩)).trans (Cg.below hHb.out)).trans (Cg.grown hst.2 ⟨_, rfl, rfl⟩))
      (by rw [hn2, ← hf3]; exact hst.1) (fun a ha => by cases ha; exact .inl ⟨_, rfl, rfl⟩)
      (fun x hx => by
        rcases List.mem_or_eq_of_mem_set hx with h1 | rfl
        · exact .inl ⟨x, List.mem_of_mem_eraseIdx h1, rfl, rfl, rfl⟩
        · exact .inl ⟨e, List.mem_of_getElem? he, rfl, rfl, rfl⟩)
      (by rw [hmv]; exact H.out.good.move (H.out.fsAt he) htn)
    rw [hn2, hn1] at q2 q3
    rw [hmv] at q2
    have hbx5 := cellG hst.2 hbx4 hbxg
    have Q2 := Lib.hid q2
    have Q3 := Lib.hid q3
    clear q2 q3 hst hf3 hmv hn2 hWz y0 y1 y2 u0 u1 u2 u3 u4 z0 z1 z2 hbx4 he1 hf
    go_wp2_with fail
    go_end0
    exact ⟨rfl, F', ⟨_, _, _, Q2.out⟩, Q3.out⟩
  | false =>
    have hpl : ps ≤ es.length - 1 := by
      have h1 := posF_le ((es.eraseIdx k).map FE.f) tn
      rw [Hps.out, List.length_map, List.length_eraseIdx_of_lt hk] at h1
      exact h1
    go_wp2_with fail
    have hba := below_alloc1 w1 (.cells #[.string (bstr tn), .slice e.A e.f.b.length e.c, .int .i64 e.f.safe] 79)
    have hxa : (w1.alloc (.cells #[.string (bstr tn), .slice e.A e.f.b.length e.c, .int .i64 e.f.safe] 79)).heap[w1.heap.size]? = some (.cells #[.string (bstr tn), .slice e.A e.f.b.length e.c, .int .i64 e.f.safe] 79 (0, 0)) := heap_alloc_new w1 _
    obtain ⟨Wa, hWa⟩ : ∃ Wa, Wa = w1.alloc (.cells #[.string (bstr tn), .slice e.A e.f.b.length e.c, .int .i64 e.f.safe] 79) := ⟨_, rfl⟩
    rw [← hWa] at hba hxa
    rw [← hWa]
    obtain ⟨vb, hvb⟩ : ∃ vb, vb = w1.heap.size := ⟨_, rfl⟩
    have hgw1 : g < w1.heap.size := (World.ownsRow.lt Hrow4.out g rfl).2
    have hbase := (World.ownsRow.lt Hrow4.out g rfl).1
    have hsz1 := (show W.heap.size ≤ w1.heap.size from Nat.le_trans Hb2.out.size (Nat.le_trans Hgr.out.size hHb.out.size))
    have hsza := hba.size
    rw [← hvb] at hxa
    rw [← hvb]
    refine (insF_any base (some ⟨g, 0, none⟩) (es.length - 1) c ps vb (flatFE (es.eraseIdx k)) [.string (bstr tn), .slice e.A e.f.b.length e.c, .int .i64 e.f.safe] Wa (Hrow4.out.below hba) (by omega) hpl (fun a ha => by cases ha; simp only; omega) hxa rfl (fun u hu => by simp at hu; rcases hu with rfl | rfl | rfl <;> rfl) (flatFE_one _) (by omega)).mono ?_
    rintro x w5 ⟨A', c', rfl, hrow5, hg5, hl5⟩
    have hrg : rowOf base (some ⟨g, 0, none⟩) = some g := by simp [rowOf, hbase]
    rw [hrg] at hg5
    have hfi := flat_ins (es.eraseIdx k) ps ⟨⟨tn, e.f.b, e.f.safe⟩, e.A, e.c⟩
    simp only at hfi
    rw [hfi] at hrow5
    have hn2 : ((es.eraseIdx k).take ps ++ ⟨⟨tn, e.f.b, e.f.safe⟩, e.A, e.c⟩ :: (es.eraseIdx k).drop ps).length = es.length - 1 + 1 := by
      simp only [List.length_append, List.length_take, List.length_cons, List.length_drop, List.length_eraseIdx_of_lt hk]
      omega
    have hmv : ((es.eraseIdx k).take ps ++ ⟨⟨tn, e.f.b, e.f.safe⟩, e.A, e.c⟩ :: (es.eraseIdx k).drop ps).map FE.f = moveF D.fs k e.f tn := by
      rw [List.map_append, List.map_cons, List.map_take, List.map_drop, Hfe.out]
      unfold moveF
      rw [if_neg (by rw [← Hth2.out]; simp), ← Hps2.out]
      rfl
    obtain ⟨q0, q1, F', q2, q3⟩ := H.out.newrow (w5 := w5) (A' := A') (c' := c') (es' := (es.eraseIdx k).take ps ++ ⟨⟨tn, e.f.b, e.f.safe⟩, e.A, e.c⟩ :: (es.eraseIdx k).drop ps)
      (((((Cg.below Hb2.out).trans (Cg.grown Hgr.out ⟨_, rfl, rfl⟩)).trans (Cg.below hHb.out)).trans (Cg.below hba)).trans (Cg.grown hg5 ⟨_, rfl, rfl⟩))
      (by rw [hn2]; exact hrow5) (fun a ha => by
        rcases hl5 a ha with h1 | h1
        · exact .inl h1
        · exact .inr (by omega))
      (fun x hx => by
        simp only [List.mem_append, List.mem_cons] at hx
        rcases hx with hx | rfl | hx
        · exact .inl ⟨x, List.mem_of_mem_eraseIdx (List.mem_of_mem_take hx), rfl, rfl, rfl⟩
        · exact .inl ⟨e, List.mem_of_getElem? he, rfl, rfl, rfl⟩
        · exact .inl ⟨x, List.mem_of_mem_eraseIdx (List.mem_of_mem_drop hx), rfl, rfl, rfl⟩)
      (by rw [hmv]; exact H.out.good.move (H.out.fsAt he) htn)
    rw [hn2] at q2 q3
    rw [hmv] at q2
    have hbx5 := cellG hg5 (cellB hba hbx4) hbxg
    have Q2 := Lib.hid q2
    have Q3 := Lib.hid q3
    clear q2 q3 hfi hmv hn2 hWa z0 z1 z2 hbx4 hrow5 hg5 hl5 hxa hba hsza
    go_wp2_with fail
    go_end0
    exact ⟨rfl, F', ⟨_, _, _, Q2.out⟩, Q3.out⟩
end
end Go.Proofs.YtemegkapmgcffaaGreat

/- The disk: Rename, whole. -/
namespace Go.Proofs.YtemegkapmgcffaaGreat
open Go.RowKit
set_option linter.unusedSimpArgs false
set_option linter.unusedVariables false

def mayRen (tn : Nm) : Int := if namedF tn = true then 0 else 16
set_option maxRecDepth 100000 in
set_option maxHeartbeats 2000000 in
theorem ren1_any (s y z : Value) (tn : Nm) (tb : Nat) (w : World) (htb : w.cell? ⟨tb, 0, none⟩ = some (.string (bstr tn))) (hl : tn.length ≤ maxLen) :
    Calls Tryz.prog 75 #[.agg #[s, y, z], .pointer (some ⟨tb, 0, none⟩)] w fun x w' => x = .returned (.int .i64 (mayRen tn)) ∧ Below w.heap.size w w' := by
  have hb := below_alloc1 w (.cells #[s, y, z] 79)
  have hc1 := cellB hb htb
  have HM := Lib.hid (show mayRen tn = if namedF tn = true then 0 else 16 from rfl)
  have Hb := Lib.hid hb
  clear htb hb
  go_enter Tryz.func75, Tryz.ntmps75
  go_wp2_with fail
  refine (named_any tn hl _).mono ?_; rintro e w1 ⟨rfl, rfl⟩
  cases hn : namedF tn with
  | true =>
    go_wp2_with fail
    go_ret
    exact ⟨by rw [HM.out, if_pos hn]; rfl, Hb.out⟩
  | false =>
    go_wp2_with fail
    go_ret
    exact ⟨by rw [HM.out, if_neg (by rw [hn]; simp)]; rfl, Hb.out⟩
theorem ent_ren1 (a : Array Value) (w : World) : (callFunc 75 a).run Tryz.prog w = .ok (.enter 75 a) w := by kernel_rfl
theorem ent_ren2 (a : Array Value) (w : World) : (callFunc 76 a).run Tryz.prog w = .ok (.enter 76 a) w := by kernel_rfl
theorem named_len {tn : Nm} (h : namedF tn = true) : tn.length ≤ 60 := by
  unfold namedF at h
  simp only [Bool.and_eq_true, decide_eq_true_eq] at h
  exact h.2.2
section
variable {w : World} {base p : Nat} {D : Dk} {F : Nat → Prop} {R : Option Addr} {c : Nat} {es : List FE}
set_option maxRecDepth 100000 in
set_option maxHeartbeats 4000000 in
theorem Rename_any (h : DkIs w base p D F) (nm tn : Nm) (hl : tn.length ≤ maxLen) :
    Calls Tryz.prog 27 #[.pointer (some ⟨p, 0, none⟩), .string (bstr nm), .string (bstr tn)] w fun x w' => x = .returned (.int .i64 (renameD D nm tn).1) ∧ ∃ F', DkIs w' base p (renameD D nm tn).2 F' ∧ Cg F F' w w' := by
  obtain ⟨R, c, es, h⟩ := h
  have hmf : ∀ (fn : Fn) (first cap : Array Value) (w : World), (Instr.makeFunc fn first cap).run Tryz.prog w = .ok (.func fn first cap) w := fun _ _ _ _ => rfl
  obtain ⟨W0, hW0⟩ : ∃ W0, W0 = w.alloc (.cells #[.pointer (some ⟨p, 0, none⟩)] 24) := ⟨_, rfl⟩
  obtain ⟨W1, hW1⟩ : ∃ W1, W1 = W0.alloc (.cells #[.string (bstr tn)] 9) := ⟨_, rfl⟩
  have hs0 : W0.heap.size = w.heap.size + 1 := by rw [hW0]; simp
  have hb0 : Below w.heap.size w W0 := by rw [hW0]; exact below_alloc1 _ _
  have hb01 : Below W0.heap.size W0 W1 := by rw [hW1]; exact below_alloc1 _ _
  have hb : Below w.heap.size w W1 := hb0.trans (hb01.mono (by omega))
  have h1 := h.below hb
  have hnbx : ¬ F w.heap.size := fun hf => by have := (h.bound _ hf).2; omega
  have hnnb : ¬ F W0.heap.size := fun hf => by have := (h.bound _ hf).2; omega
  have hbx : W1.cell? ⟨w.heap.size, 0, none⟩ = some (.pointer (some ⟨p, 0, none⟩)) := box_kept (Cg.below (F := fun _ => False) hb01) (by rw [hW0]; exact box_new w _ _) (fun h => h)
  have hnb : W1.cell? ⟨W0.heap.size, 0, none⟩ = some (.string (bstr tn)) := by rw [hW1]; exact box_new W0 _ _
  have Hb := Lib.hid hb
  have H1 := Lib.hid h1
  have Hsy := Lib.hid (show ∀ e w1, es[posF D.fs nm]? = some e → mayRen tn = 0 → DI w1 base p (burnt D) F R c es → Cg F F W1 w1 → Calls Tryz.prog 76 (#[.int .i64 (posF D.fs nm : Int)] ++ #[.pointer (some ⟨w.heap.size, 0, none⟩), .pointer (some ⟨w.heap.size + 1, 0, none⟩)]) w1 fun x w' => x = .returned (.tuple #[]) ∧ ∃ f F', D.fs[posF D.fs nm]? = some f ∧ DkIs w' base p { burnt D with fs := moveF D.fs (posF D.fs nm) f tn } F' ∧ Cg F F' W1 w' from fun e w1 he hm h5 hc5 => by
    rw [app12, ← hs0]
    have hn : tn.length ≤ 60 := by
      unfold mayRen at hm
      split at hm
      · rename_i h; exact named_len h
      · cases hm
    exact (ren2_any h5 (box_kept hc5 hbx hnbx) hnbx (box_kept hc5 hnb hnnb) hnnb he hn).mono (fun x w' ⟨k1, F2, k2, k3⟩ => ⟨k1, e.f, F2, H1.out.fsAt he, k2, hc5.trans k3⟩))
  have Hal := Lib.hid (show ∀ (e : FE) (w1 : World), Below W1.heap.size W1 w1 → Calls Tryz.prog 75 (#[.agg #[.string (bstr e.f.nm), .slice e.A e.f.b.length e.c, .int .i64 e.f.safe]] ++ #[.pointer (some ⟨w.heap.size + 1, 0, none⟩)]) w1 fun x w' => x = .returned (.int .i64 (mayRen tn)) ∧ Below w1.heap.size w1 w' from fun e w1 hb1 => by
    rw [app2, ← hs0]
    exact ren1_any _ _ _ _ _ w1 (box_kept (Cg.below (F := fun _ => False) hb1) hnb (fun h => h)) hl)
  have HW1 := Lib.hid (show (w.alloc (.cells #[.pointer (some ⟨p, 0, none⟩)] 24)).alloc (.cells #[.string (bstr tn)] 9) = W1 by rw [hW1, hW0])
  have hx1 : ((w.alloc (.cells #[.pointer (some ⟨p, 0, none⟩)] 24)).alloc (.cells #[.string (bstr tn)] 9)).cell? ⟨w.heap.size, 0, none⟩ = some (.pointer (some ⟨p, 0, none⟩)) := by rw [HW1.out]; exact hbx
  clear h1 hb h hb0 hb01 hbx hnb hnbx hnnb hs0 hW1 hW0
  go_enter Tryz.func27, Tryz.ntmps27
  go_wp2_with fail
  rw [HW1.out]
  refine (of_any H1.out nm 75 76 #[.pointer (some ⟨w.heap.size + 1, 0, none⟩)] #[.pointer (some ⟨w.heap.size, 0, none⟩), .pointer (some ⟨w.heap.size + 1, 0, none⟩)] (fun _ => mayRen tn) (fun w' => ∃ f F', D.fs[posF D.fs nm]? = some f ∧ DkIs w' base p { burnt D with fs := moveF D.fs (posF D.fs nm) f tn } F' ∧ Cg F F' W1 w') ent_ren1 ent_ren2 (fun e w1 _ hb => Hal.out e w1 hb) (fun e w1 he _ _ _ hm _ h5 hc5 => Hsy.out e w1 he hm h5 hc5)).mono ?_
  rintro x w6 hx
  obtain ⟨rfl, F', k1, k2⟩ := of_law H1.out (may := fun _ => mayRen tn) (act := fun i f => moveF D.fs i f tn) hx
  have K1 := Lib.hid k1
  have K2 := Lib.hid ((Cg.below Hb.out).trans k2)
  clear hx k1 k2
  go_wp2_with fail
  go_ret
  exact ⟨rfl, F', K1.out, K2.out⟩
end
end Go.Proofs.YtemegkapmgcffaaGreat

/- The disk: New, Arm, Down, told. -/
namespace Go.Proofs.YtemegkapmgcffaaGreat
open Go.RowKit
set_option linter.unusedSimpArgs false
set_option linter.unusedVariables false

section
variable {w : World} {base p : Nat} {D : Dk} {F : Nat → Prop}
set_option maxHeartbeats 1000000 in
theorem Down_any (h : DkIs w base p D F) : Calls Tryz.prog 60 #[.pointer (some ⟨p, 0, none⟩)] w fun x w' => x = .returned (.bool D.dark) ∧ w = w' := by
  obtain ⟨R, c, es, h⟩ := h
  go_enter Tryz.func60, Tryz.ntmps60
  go_wp2_with fail
  refine (lit_any h).mono ?_; rintro e w1 ⟨rfl, rfl⟩
  clear h
  unfold litD
  cases hd : D.dark with
  | true =>
    simp only [if_true]
    go_wp2_with fail
    go_ret
    exact ⟨by simp [hd], rfl⟩
  | false =>
    simp only [Bool.false_eq_true, if_false]
    go_wp2_with fail
    go_ret
    exact ⟨by simp [hd], rfl⟩
theorem Good.fused {D : Dk} (h : Good D) {n : Int} (h1 : -1 ≤ n) (h2 : n ≤ 9223372036854775807) : Good { D with fuse := n } := ⟨h.srt, h.room, ⟨h1, h2⟩, h.few, h.safe, h.used, h.nms⟩
set_option maxHeartbeats 1000000 in
theorem Arm_any (h : DkIs w base p D F) (n : Int) (hn : n ≤ 9223372036854775807) : Calls Tryz.prog 12 #[.pointer (some ⟨p, 0, none⟩), .int .i64 n] w fun x w' => x = .returned (.tuple #[]) ∧ DkIs w' base p (armD D n) F ∧ Cg F F w w' := by
  obtain ⟨R, c, es, h⟩ := h
  obtain ⟨c0, c1, c2, c3, c4⟩ := h.cell
  have y2 := World.ownsRow.frozenAt h.own 2
  have st := World.ownsRow.stored h.own 2 (.int .i64 (max 0 n))
  have hgd : Good { D with fuse := max 0 n } := h.good.fused (by omega) (by omega)
  have hfin := h.turn (D' := { D with fuse := max 0 n }) hgd rfl st.1 st.2
  have Hfin := Lib.hid hfin
  have Hg := Lib.hid (Cg.grown st.2 h.fp)
  have Hh := Lib.hid h
  have HA := Lib.hid (show armD D n = if D.dark = true then D else { D with fuse := max 0 n } from rfl)
  clear hfin st c0 c1 c3 c4 hgd
  go_enter Tryz.func12, Tryz.ntmps12
  go_wp2_with fail
  refine (lit_any h).mono ?_; rintro e w1 ⟨rfl, rfl⟩
  clear h
  unfold litD
  cases hd : D.dark with
  | true =>
    simp only [if_true]
    go_wp2_with fail
    go_end0
    exact ⟨rfl, by rw [HA.out, if_pos hd]; exact ⟨_, _, _, Hh.out⟩, Cg.below (Below.refl _ _)⟩
  | false =>
    simp only [Bool.false_eq_true, if_false]
    rcases Int.le_total n 0 with h0 | h0
    · have hm : max 0 n = 0 := by omega
      rw [hm] at Hfin Hg
      go_wp2_with fail
      go_end0
      exact ⟨rfl, by rw [HA.out, if_neg (by rw [hd]; simp), hm]; exact ⟨_, _, _, Hfin.out⟩, Hg.out⟩
    · have hm : max 0 n = n := by omega
      rw [hm] at Hfin Hg
      go_wp2_with fail
      go_end0
      exact ⟨rfl, by rw [HA.out, if_neg (by rw [hd]; simp), hm]; exact ⟨_, _, _, Hfin.out⟩, Hg.out⟩
end
end Go.Proofs.YtemegkapmgcffaaGreat

/- The disk: Read. -/
namespace Go.Proofs.YtemegkapmgcffaaGreat
open Go.RowKit
set_option linter.unusedSimpArgs false
set_option linter.unusedVariables false

section
variable {w : World} {base p : Nat} {D : Dk} {F : Nat → Prop}
theorem own_nilF (base : Nat) (w : World) : Own base 5 1 w none 0 0 (bytesV []) := ⟨rfl, .inl ⟨rfl, rfl⟩⟩
set_option maxRecDepth 100000 in
set_option maxHeartbeats 4000000 in
theorem Read_any (h : DkIs w base p D F) (nm : Nm) :
    Calls Tryz.prog 25 #[.pointer (some ⟨p, 0, none⟩), .string (bstr nm)] w fun x w' => ∃ A c, x = .returned (.tuple #[.slice A (readD D nm).1.length c, .int .i64 (readD D nm).2]) ∧ Own w.heap.size 5 1 w' A (readD D nm).1.length c (bytesV (readD D nm).1) ∧ Below w.heap.size w w' := by
  obtain ⟨R, c, es, h⟩ := h
  have HR := Lib.hid (show readD D nm = if D.dark = true then ([], 15) else if thereF D.fs nm = true then ((lookF D.fs nm).b, 0) else ([], 16) from rfl)
  have H := Lib.hid h
  have hl200 := h.len
  go_enter Tryz.func25, Tryz.ntmps25
  go_wp2_with fail
  refine (lit_any h).mono ?_; rintro e w1 ⟨rfl, rfl⟩
  clear h
  have hdk : litD D = 15 ∧ D.dark = true ∨ litD D = 0 ∧ D.dark = false := by unfold litD; cases D.dark <;> simp
  rcases hdk with ⟨hl, hdk⟩ | ⟨hl, hdk⟩
  · rw [hl]
    go_wp2_with fail
    go_ret2
    rw [HR.out, if_pos hdk]
    exact ⟨none, 0, rfl, own_nilF _ _, Below.refl _ _⟩
  · rw [hl]
    have HDK := Lib.hid hdk
    obtain ⟨ps, hps⟩ : ∃ ps, ps = posF D.fs nm := ⟨_, rfl⟩
    obtain ⟨th, hth⟩ : ∃ th, th = thereF D.fs nm := ⟨_, rfl⟩
    have Hps := Lib.hid (show posF (es.map FE.f) nm = ps by rw [hps, H.out.fs])
    have Hth := Lib.hid (show thereF (es.map FE.f) nm = th by rw [hth, H.out.fs])
    have Hps2 := Lib.hid hps
    have Hth2 := Lib.hid hth
    have HC0 := Lib.hid H.out.cell.1
    have HC4 := Lib.hid H.out.cell.2.2.2.2
    have HS3 := Lib.hid H.out.row.sl
    have HSo := Lib.hid (show SrtF (es.map FE.f) by rw [H.out.fs]; exact H.out.good.srt)
    clear hl hdk hps hth
    go_upto_region 4 with fail
    --@region 29 4 read4.spec
    refine wp_region_run (by kernel_rfl) (by kernel_rfl) ?_
    apply RunL.pure
    · intro vs w hb hd; clear hd; simp only [List.take, putL, Act.put, List.setIfInBounds_toArray, List.set_cons_zero, List.set_cons_succ]; unfold StepOK; go_simp; exact ⟨Below.refl _ _, isV_mk _ _⟩
    apply RunL.pure
    · intro vs w hb hd; have d0 : isV _ (vs 0) w := hd 0 (by decide) (by kernel_rfl); unfold isV at d0; clear hd; simp only [List.take, putL, Act.put, List.setIfInBounds_toArray, List.set_cons_zero, List.set_cons_succ]; unfold StepOK; go_simp; exact ⟨Below.refl _ _, isV_mk _ _⟩
    apply RunL.pure
    · intro vs w hb hd; have d1 : isV _ (vs 1) w := hd 1 (by decide) (by kernel_rfl); unfold isV at d1; clear hd; simp only [List.take, putL, Act.put, List.setIfInBounds_toArray, List.set_cons_zero, List.set_cons_succ]; unfold StepOK; go_simp; exact ⟨Below.refl _ _, isV_mk _ _⟩
    apply RunL.pure
    · intro vs w hb hd; have d2 : isV _ (vs 2) w := hd 2 (by decide) (by kernel_rfl); unfold isV at d2; clear hd; have hx1 := cellB hb HC4.out; simp only [List.take, putL, Act.put, List.setIfInBounds_toArray, List.set_cons_zero, List.set_cons_succ]; unfold StepOK; go_simp; exact ⟨Below.refl _ _, isV_mk _ _⟩
    apply RunL.pure
    · intro vs w hb hd; clear hd; simp only [List.take, putL, Act.put, List.setIfInBounds_toArray, List.set_cons_zero, List.set_cons_succ]; unfold StepOK; go_simp; exact ⟨Below.refl _ _, isV_mk _ _⟩
    apply RunL.pure
    · intro vs w hb hd; have d4 : isV _ (vs 4) w := hd 4 (by decide) (by kernel_rfl); unfold isV at d4; clear hd; simp only [List.take, putL, Act.put, List.setIfInBounds_toArray, List.set_cons_zero, List.set_cons_succ]; unfold StepOK; go_simp; exact ⟨Below.refl _ _, isV_mk _ _⟩
    apply RunL.pure
    · intro vs w hb hd; have d5 : isV _ (vs 5) w := hd 5 (by decide) (by kernel_rfl); unfold isV at d5; clear hd; simp only [List.take, putL, Act.put, List.setIfInBounds_toArray, List.set_cons_zero, List.set_cons_succ]; unfold StepOK; go_simp; exact ⟨Below.refl _ _, isV_mk _ _⟩
    apply RunL.pure
    · intro vs w hb hd; have d6 : isV _ (vs 6) w := hd 6 (by decide) (by kernel_rfl); unfold isV at d6; clear hd; have hx1 := cellB hb HC0.out; simp only [List.take, putL, Act.put, List.setIfInBounds_toArray, List.set_cons_zero, List.set_cons_succ]; unfold StepOK; go_simp; exact ⟨Below.refl _ _, isV_mk _ _⟩
    apply RunL.pure
    · intro vs w hb hd; clear hd; simp only [List.take, putL, Act.put, List.setIfInBounds_toArray, List.set_cons_zero, List.set_cons_succ]; unfold StepOK; go_simp; exact ⟨Below.refl _ _, isV_mk _ _⟩
    refine RunL.such (isV (.tuple #[.int .i64 (ps : Int), .bool th])) (isV_stable _) ?_ ?_
    · intro vs w hb hd; have d3 : isV _ (vs 3) w := hd 3 (by decide) (by kernel_rfl); unfold isV at d3; have d7 : isV _ (vs 7) w := hd 7 (by decide) (by kernel_rfl); unfold isV at d7; have d8 : isV _ (vs 8) w := hd 8 (by decide) (by kernel_rfl); unfold isV at d8; clear hd; have hs1 := HS3.out.below hb; simp only [List.take, putL, Act.put, List.setIfInBounds_toArray, List.set_cons_zero, List.set_cons_succ]; unfold StepOK; go_simp; exact ⟨Below.refl _ _, such_of_bool (by rw [← Hps.out, ← Hth.out]; exact place_any _ _ _ es nm w hs1 (by omega) HSo.out)⟩
    apply RunL.pure
    · intro vs w hb hd; have d9 := hd 9 (by decide) (by kernel_rfl); simp only [TR, Nat.reduceAdd, Nat.reduceSub, List.getD_cons_zero, List.getD_cons_succ] at d9; clear hd; unfold isV at d9; simp only [List.take, putL, Act.put, List.setIfInBounds_toArray, List.set_cons_zero, List.set_cons_succ]; unfold StepOK; go_simp; exact ⟨Below.refl _ _, isV_mk _ _⟩
    apply RunL.pure
    · intro vs w hb hd; have d10 : isV _ (vs 10) w := hd 10 (by decide) (by kernel_rfl); unfold isV at d10; clear hd; simp only [List.take, putL, Act.put, List.setIfInBounds_toArray, List.set_cons_zero, List.set_cons_succ]; unfold StepOK; go_simp; exact ⟨Below.refl _ _, isV_mk _ _⟩
    apply RunL.pure
    · intro vs w hb hd; have d10 : isV _ (vs 10) w := hd 10 (by decide) (by kernel_rfl); unfold isV at d10; clear hd; simp only [List.take, putL, Act.put, List.setIfInBounds_toArray, List.set_cons_zero, List.set_cons_succ]; unfold StepOK; go_simp; exact ⟨Below.refl _ _, isV_mk _ _⟩
    apply RunL.pure
    · intro vs w hb hd; have d0 : isV _ (vs 0) w := hd 0 (by decide) (by kernel_rfl); unfold isV at d0; have d1 : isV _ (vs 1) w := hd 1 (by decide) (by kernel_rfl); unfold isV at d1; have d2 : isV _ (vs 2) w := hd 2 (by decide) (by kernel_rfl); unfold isV at d2; have d3 : isV _ (vs 3) w := hd 3 (by decide) (by kernel_rfl); unfold isV at d3; have d4 : isV _ (vs 4) w := hd 4 (by decide) (by kernel_rfl); unfold isV at d4; have d5 : isV _ (vs 5) w := hd 5 (by decide) (by kernel_rfl); unfold isV at d5; have d6 : isV _ (vs 6) w := hd 6 (by decide) (by kernel_rfl); unfold isV at d6; have d7 : isV _ (vs 7) w := hd 7 (by decide) (by kernel_rfl); unfold isV at d7; have d8 : isV _ (vs 8) w := hd 8 (by decide) (by kernel_rfl); unfold isV at d8; have d9 := hd 9 (by decide) (by kernel_rfl); simp only [TR, Nat.reduceAdd, Nat.reduceSub, List.getD_cons_zero, List.getD_cons_succ] at d9; have d10 : isV _ (vs 10) w := hd 10 (by decide) (by kernel_rfl); unfold isV at d10; have d11 : isV _ (vs 11) w := hd 11 (by decide) (by kernel_rfl); unfold isV at d11; clear hd; simp only [List.take, putL, Act.put, List.setIfInBounds_toArray, List.set_cons_zero, List.set_cons_succ]; unfold StepOK; go_simp; exact ⟨Below.refl _ _, isV_mk _ _⟩
    apply RunL.pure
    · intro vs w hb hd; have d0 : isV _ (vs 0) w := hd 0 (by decide) (by kernel_rfl); unfold isV at d0; have d1 : isV _ (vs 1) w := hd 1 (by decide) (by kernel_rfl); unfold isV at d1; have d2 : isV _ (vs 2) w := hd 2 (by decide) (by kernel_rfl); unfold isV at d2; have d3 : isV _ (vs 3) w := hd 3 (by decide) (by kernel_rfl); unfold isV at d3; have d4 : isV _ (vs 4) w := hd 4 (by decide) (by kernel_rfl); unfold isV at d4; have d5 : isV _ (vs 5) w := hd 5 (by decide) (by kernel_rfl); unfold isV at d5; have d6 : isV _ (vs 6) w := hd 6 (by decide) (by kernel_rfl); unfold isV at d6; have d7 : isV _ (vs 7) w := hd 7 (by decide) (by kernel_rfl); unfold isV at d7; have d8 : isV _ (vs 8) w := hd 8 (by decide) (by kernel_rfl); unfold isV at d8; have d9 := hd 9 (by decide) (by kernel_rfl); simp only [TR, Nat.reduceAdd, Nat.reduceSub, List.getD_cons_zero, List.getD_cons_succ] at d9; have d10 : isV _ (vs 10) w := hd 10 (by decide) (by kernel_rfl); unfold isV at d10; have d11 : isV _ (vs 11) w := hd 11 (by decide) (by kernel_rfl); unfold isV at d11; have d12 : isV _ (vs 12) w := hd 12 (by decide) (by kernel_rfl); unfold isV at d12; have d13 : isV _ (vs 13) w := hd 13 (by decide) (by kernel_rfl); unfold isV at d13; clear hd; simp only [List.take, putL, Act.put, List.setIfInBounds_toArray, List.set_cons_zero, List.set_cons_succ]; unfold StepOK; go_simp; exact ⟨Below.refl _ _, isV_mk _ _⟩
    intro vs w1 hb hd
    have e0 : isV _ (vs 0) w1 := hd 0 (by decide)
    have e1 : isV _ (vs 1) w1 := hd 1 (by decide)
    have e2 : isV _ (vs 2) w1 := hd 2 (by decide)
    have e3 : isV _ (vs 3) w1 := hd 3 (by decide)
    have e4 : isV _ (vs 4) w1 := hd 4 (by decide)
    have e5 : isV _ (vs 5) w1 := hd 5 (by decide)
    have e6 : isV _ (vs 6) w1 := hd 6 (by decide)
    have e7 : isV _ (vs 7) w1 := hd 7 (by decide)
    have e8 : isV _ (vs 8) w1 := hd 8 (by decide)
    have e9 := hd 9 (by decide); simp only [TR, Nat.reduceAdd, Nat.reduceSub, List.getD_cons_zero, List.getD_cons_succ] at e9
    have e10 : isV _ (vs 10) w1 := hd 10 (by decide)
    have e11 : isV _ (vs 11) w1 := hd 11 (by decide)
    have e12 : isV _ (vs 12) w1 := hd 12 (by decide)
    have e13 : isV _ (vs 13) w1 := hd 13 (by decide)
    have e14 : isV _ (vs 14) w1 := hd 14 (by decide)
    clear hd
    unfold isV at e0 e1 e2 e3 e4 e5 e6 e7 e8 e10 e11 e12 e13 e14
    simp only [putL, Act.put, List.setIfInBounds_toArray, List.set_cons_zero, List.set_cons_succ, e0, e1, e2, e3, e4, e5, e6, e7, e8, e10, e11, e12, e13, e14]
    clear e0 e1 e2 e3 e4 e5 e6 e7 e8 e10 e11 e12 e13 e14
    --@end
    have hc0 := cellB hb HC0.out
    have hHb := Lib.hid hb
    have H1 := Lib.hid (H.out.below hb)
    clear hb
    cases th with
    | false =>
      go_wp2_with fail
      go_ret2
      rw [HR.out, if_neg (by rw [HDK.out]; simp), if_neg (by rw [← Hth2.out]; simp)]
      exact ⟨none, 0, rfl, own_nilF _ _, hHb.out⟩
    | true =>
      obtain ⟨f, hf, hfn⟩ := there_true Hth2.out.symm
      rw [← Hps2.out] at hf
      obtain ⟨e, he, hef⟩ : ∃ e, es[ps]? = some e ∧ e.f = f := by
        rw [← H.out.fs, List.getElem?_map, Option.map_eq_some_iff] at hf
        exact hf
      subst hef
      obtain ⟨g, rfl⟩ := rowAddr H1.out he
      obtain ⟨y0, y1, y2⟩ := slFE_three H1.out.row.sl he
      rw [add_plain] at y0 y1 y2
      simp only [] at y1 y2
      have hlt := (List.getElem?_eq_some_iff.1 he).1
      have hin : (0 : Int) ≤ (ps : Int) ∧ (ps : Int) < (es.length : Int) := by omega
      have hp2 : ps < 200 := by omega
      have hbl : e.f.b.length ≤ 70368744175616 := by
        have h1 := used_set (f' := ⟨e.f.nm, [], 0⟩) (H.out.fsAt he)
        have h2 := H.out.good.used
        have h3 := H.out.good.room
        simp only [List.length_nil] at h1
        omega
      have hlk : lookF D.fs nm = e.f := by
        unfold lookF
        rw [← Hth2.out, ← Hps2.out, hf]
      have HLK := Lib.hid hlk
      have Hbl := Lib.hid hbl
      have He := Lib.hid he
      clear hbl hlk hf he hfn
      go_wp2_with fail
      refine (clone_such hHb.out.size ⟨(H1.out.each e (List.mem_of_getElem? He.out)).1, Hbl.out⟩).mono ?_
      rintro x w2 ⟨v, rfl, hb2, hcl⟩
      obtain ⟨A', c', rfl, hown⟩ := isCl_elim hcl
      go_wp2_with fail
      go_ret2
      rw [HR.out, if_neg (by rw [HDK.out]; simp), if_pos Hth2.out.symm, HLK.out]
      exact ⟨A', c', rfl, hown, hHb.out.trans (hb2.mono hHb.out.size)⟩
end
end Go.Proofs.YtemegkapmgcffaaGreat

/- The disk: look. -/
namespace Go.Proofs.YtemegkapmgcffaaGreat
open Go.RowKit
set_option linter.unusedSimpArgs false
set_option linter.unusedVariables false

theorem results_cellD {fn : Func} {t : Tmp} {ty : TypeId} (h : fn.results = #[.cell t ty]) (tmps : Array Value) (P : Program) (w : World) (a : Addr) (ht : tmps.getD t undef = .pointer (some a)) (x : Value) (hl : (loadVar ty a).run P w = .ok x w) :
    (results fn tmps).run P w = .ok x w := by
  simp only [Array.getD_eq_getD_getElem?] at ht
  simp [results, h, ht, asAddr, Sem.run_bind, hl]
theorem load_ownD {base r : Nat} {w : World} {cs : List Value} (h : Own base 79 1 w (some ⟨r, 0, none⟩) 3 3 cs) : (loadVar 79 ⟨r, 0, none⟩).run Tryz.prog w = .ok (.agg cs.toArray) w := by
  have hl : cs.length = 3 := by simpa using h.1
  exact run_loadVar_mid w r 0 79 cs _ (fun j v hj => by
    have hlt : j < 3 := by have := (List.getElem?_eq_some_iff.1 hj).1; omega
    have := World.ownsRow.cellAt h j (by omega)
    rw [Nat.zero_add, this, hj]) Tryz.underlying79 rfl (by rw [hl]; kernel_rfl)
theorem stored3 {base r : Nat} {t : TypeId} {w : World} {cs : List Value} (h : Own base t 1 w (some ⟨r, 0, none⟩) 3 3 cs) (v0 v1 v2 : Value) :
    Own base t 1 (((w.setCell ⟨r, 0, none⟩ v0).setCell ⟨r, 1, none⟩ v1).setCell ⟨r, 2, none⟩ v2) (some ⟨r, 0, none⟩) 3 3 [v0, v1, v2] ∧
    w.grownBy (((w.setCell ⟨r, 0, none⟩ v0).setCell ⟨r, 1, none⟩ v1).setCell ⟨r, 2, none⟩ v2) (some r) := by
  have hl : cs.length = 3 := by simpa using h.1
  obtain ⟨a, b, d, rfl⟩ : ∃ a b d, cs = [a, b, d] := by
    match cs, hl with
    | [a, b, d], _ => exact ⟨a, b, d, rfl⟩
  have s1 := World.ownsRow.stored h 0 v0
  have s2 := World.ownsRow.stored s1.1 1 v1
  have s3 := World.ownsRow.stored s2.1 2 v2
  exact ⟨s3.1, s1.2.trans (s2.2.trans s3.2)⟩
section
variable {w : World} {base p : Nat} {D : Dk} {F : Nat → Prop}
set_option maxRecDepth 100000 in
set_option maxHeartbeats 4000000 in
theorem look_any (h : DkIs w base p D F) (nm : Nm) :
    Calls Tryz.prog 93 #[.pointer (some ⟨p, 0, none⟩), .string (bstr nm)] w fun x w' => ∃ A c, x = .returned (.agg #[.string (bstr (lookF D.fs nm).nm), .slice A (lookF D.fs nm).b.length c, .int .i64 (lookF D.fs nm).safe]) ∧ Below w.heap.size w w' := by
  obtain ⟨R, c, es, h⟩ := h
  have HL := Lib.hid (show lookF D.fs nm = match thereF D.fs nm, D.fs[posF D.fs nm]? with | true, some f => f | _, _ => ⟨[], [], 0⟩ from rfl)
  have hl200 := h.len
  have hb0 := below_alloc1 w (.cells #[.string { data := #[] }, .slice none 0 0, .int .i64 0] 79)
  have hown := new_own w [.string { data := #[] }, .slice none 0 0, .int .i64 0] 79 3 rfl (by unfold maxLen; omega)
  have h1 := h.below hb0
  obtain ⟨W1, hW1⟩ : ∃ W1, W1 = w.alloc (.cells #[.string { data := #[] }, .slice none 0 0, .int .i64 0] 79) := ⟨_, rfl⟩
  have hT : (w.alloc (.cells [Value.string { data := #[] }, .slice none 0 0, .int .i64 0].toArray 79)) = W1 := hW1.symm
  rw [hT] at hown
  rw [← hW1] at hb0 h1
  have HW1 := Lib.hid hW1
  have Hb0 := Lib.hid hb0
  have H := Lib.hid h1
  have Hown := Lib.hid hown
  obtain ⟨r, hr⟩ : ∃ r, r = w.heap.size := ⟨_, rfl⟩
  have Hr := Lib.hid hr
  rw [← hr] at Hown
  clear h hown hb0 h1 hW1 hT
  go_enter Tryz.func93, Tryz.ntmps93
  go_wp2_with fail
  rw [← HW1.out]
  refine (made_any H.out).mono ?_; rintro e w1 ⟨rfl, rfl⟩
  rw [← Hr.out]
  obtain ⟨ps, hps⟩ : ∃ ps, ps = posF D.fs nm := ⟨_, rfl⟩
  obtain ⟨th, hth⟩ : ∃ th, th = thereF D.fs nm := ⟨_, rfl⟩
  have Hps := Lib.hid (show posF (es.map FE.f) nm = ps by rw [hps, H.out.fs])
  have Hth := Lib.hid (show thereF (es.map FE.f) nm = th by rw [hth, H.out.fs])
  have Hps2 := Lib.hid hps
  have Hth2 := Lib.hid hth
  have HC0 := Lib.hid H.out.cell.1
  have HC4 := Lib.hid H.out.cell.2.2.2.2
  have HS3 := Lib.hid H.out.row.sl
  have HSo := Lib.hid (show SrtF (es.map FE.f) by rw [H.out.fs]; exact H.out.good.srt)
  clear hps hth hr
  go_upto_region 3 with fail
  --@region 99 3 look3.spec
  refine wp_region_run (by kernel_rfl) (by kernel_rfl) ?_
  apply RunL.pure
  · intro vs w hb hd; clear hd; simp only [List.take, putL, Act.put, List.setIfInBounds_toArray, List.set_cons_zero, List.set_cons_succ]; unfold StepOK; go_simp; exact ⟨Below.refl _ _, isV_mk _ _⟩
  apply RunL.pure
  · intro vs w hb hd; have d0 : isV _ (vs 0) w := hd 0 (by decide) (by kernel_rfl); unfold isV at d0; clear hd; simp only [List.take, putL, Act.put, List.setIfInBounds_toArray, List.set_cons_zero, List.set_cons_succ]; unfold StepOK; go_simp; exact ⟨Below.refl _ _, isV_mk _ _⟩
  apply RunL.pure
  · intro vs w hb hd; have d1 : isV _ (vs 1) w := hd 1 (by decide) (by kernel_rfl); unfold isV at d1; clear hd; simp only [List.take, putL, Act.put, List.setIfInBounds_toArray, List.set_cons_zero, List.set_cons_succ]; unfold StepOK; go_simp; exact ⟨Below.refl _ _, isV_mk _ _⟩
  apply RunL.pure
  · intro vs w hb hd; have d2 : isV _ (vs 2) w := hd 2 (by decide) (by kernel_rfl); unfold isV at d2; clear hd; have hx1 := cellB hb HC4.out; simp only [List.take, putL, Act.put, List.setIfInBounds_toArray, List.set_cons_zero, List.set_cons_succ]; unfold StepOK; go_simp; exact ⟨Below.refl _ _, isV_mk _ _⟩
  apply RunL.pure
  · intro vs w hb hd; clear hd; simp only [List.take, putL, Act.put, List.setIfInBounds_toArray, List.set_cons_zero, List.set_cons_succ]; unfold StepOK; go_simp; exact ⟨Below.refl _ _, isV_mk _ _⟩
  apply RunL.pure
  · intro vs w hb hd; have d4 : isV _ (vs 4) w := hd 4 (by decide) (by kernel_rfl); unfold isV at d4; clear hd; simp only [List.take, putL, Act.put, List.setIfInBounds_toArray, List.set_cons_zero, List.set_cons_succ]; unfold StepOK; go_simp; exact ⟨Below.refl _ _, isV_mk _ _⟩
  apply RunL.pure
  · intro vs w hb hd; have d5 : isV _ (vs 5) w := hd 5 (by decide) (by kernel_rfl); unfold isV at d5; clear hd; simp only [List.take, putL, Act.put, List.setIfInBounds_toArray, List.set_cons_zero, List.set_cons_succ]; unfold StepOK; go_simp; exact ⟨Below.refl _ _, isV_mk _ _⟩
  apply RunL.pure
  · intro vs w hb hd; have d6 : isV _ (vs 6) w := hd 6 (by decide) (by kernel_rfl); unfold isV at d6; clear hd; have hx1 := cellB hb HC0.out; simp only [List.take, putL, Act.put, List.setIfInBounds_toArray, List.set_cons_zero, List.set_cons_succ]; unfold StepOK; go_simp; exact ⟨Below.refl _ _, isV_mk _ _⟩
  apply RunL.pure
  · intro vs w hb hd; clear hd; simp only [List.take, putL, Act.put, List.setIfInBounds_toArray, List.set_cons_zero, List.set_cons_succ]; unfold StepOK; go_simp; exact ⟨Below.refl _ _, isV_mk _ _⟩
  refine RunL.such (isV (.tuple #[.int .i64 (ps : Int), .bool th])) (isV_stable _) ?_ ?_
  · intro vs w hb hd; have d3 : isV _ (vs 3) w := hd 3 (by decide) (by kernel_rfl); unfold isV at d3; have d7 : isV _ (vs 7) w := hd 7 (by decide) (by kernel_rfl); unfold isV at d7; have d8 : isV _ (vs 8) w := hd 8 (by decide) (by kernel_rfl); unfold isV at d8; clear hd; have hs1 := HS3.out.below hb; simp only [List.take, putL, Act.put, List.setIfInBounds_toArray, List.set_cons_zero, List.set_cons_succ]; unfold StepOK; go_simp; exact ⟨Below.refl _ _, such_of_bool (by rw [← Hps.out, ← Hth.out]; exact place_any _ _ _ es nm w hs1 (by omega) HSo.out)⟩
  apply RunL.pure
  · intro vs w hb hd; have d9 := hd 9 (by decide) (by kernel_rfl); simp only [TR, Nat.reduceAdd, Nat.reduceSub, List.getD_cons_zero, List.getD_cons_succ] at d9; clear hd; unfold isV at d9; simp only [List.take, putL, Act.put, List.setIfInBounds_toArray, List.set_cons_zero, List.set_cons_succ]; unfold StepOK; go_simp; exact ⟨Below.refl _ _, isV_mk _ _⟩
  apply RunL.pure
  · intro vs w hb hd; have d10 : isV _ (vs 10) w := hd 10 (by decide) (by kernel_rfl); unfold isV at d10; clear hd; simp only [List.take, putL, Act.put, List.setIfInBounds_toArray, List.set_cons_zero, List.set_cons_succ]; unfold StepOK; go_simp; exact ⟨Below.refl _ _, isV_mk _ _⟩
  apply RunL.pure
  · intro vs w hb hd; have d10 : isV _ (vs 10) w := hd 10 (by decide) (by kernel_rfl); unfold isV at d10; clear hd; simp only [List.take, putL, Act.put, List.setIfInBounds_toArray, List.set_cons_zero, List.set_cons_succ]; unfold StepOK; go_simp; exact ⟨Below.refl _ _, isV_mk _ _⟩
  apply RunL.pure
  · intro vs w hb hd; have d0 : isV _ (vs 0) w := hd 0 (by decide) (by kernel_rfl); unfold isV at d0; have d1 : isV _ (vs 1) w := hd 1 (by decide) (by kernel_rfl); unfold isV at d1; have d2 : isV _ (vs 2) w := hd 2 (by decide) (by kernel_rfl); unfold isV at d2; have d3 : isV _ (vs 3) w := hd 3 (by decide) (by kernel_rfl); unfold isV at d3; have d4 : isV _ (vs 4) w := hd 4 (by decide) (by kernel_rfl); unfold isV at d4; have d5 : isV _ (vs 5) w := hd 5 (by decide) (by kernel_rfl); unfold isV at d5; have d6 : isV _ (vs 6) w := hd 6 (by decide) (by kernel_rfl); unfold isV at d6; have d7 : isV _ (vs 7) w := hd 7 (by decide) (by kernel_rfl); unfold isV at d7; have d8 : isV _ (vs 8) w := hd 8 (by decide) (by kernel_rfl); unfold isV at d8; have d9 := hd 9 (by decide) (by kernel_rfl); simp only [TR, Nat.reduceAdd, Nat.reduceSub, List.getD_cons_zero, List.getD_cons_succ] at d9; have d10 : isV _ (vs 10) w := hd 10 (by decide) (by kernel_rfl); unfold isV at d10; have d11 : isV _ (vs 11) w := hd 11 (by decide) (by kernel_rfl); unfold isV at d11; clear hd; simp only [List.take, putL, Act.put, List.setIfInBounds_toArray, List.set_cons_zero, List.set_cons_succ]; unfold StepOK; go_simp; exact ⟨Below.refl _ _, isV_mk _ _⟩
  apply RunL.pure
  · intro vs w hb hd; have d0 : isV _ (vs 0) w := hd 0 (by decide) (by kernel_rfl); unfold isV at d0; have d1 : isV _ (vs 1) w := hd 1 (by decide) (by kernel_rfl); unfold isV at d1; have d2 : isV _ (vs 2) w := hd 2 (by decide) (by kernel_rfl); unfold isV at d2; have d3 : isV _ (vs 3) w := hd 3 (by decide) (by kernel_rfl); unfold isV at d3; have d4 : isV _ (vs 4) w := hd 4 (by decide) (by kernel_rfl); unfold isV at d4; have d5 : isV _ (vs 5) w := hd 5 (by decide) (by kernel_rfl); unfold isV at d5; have d6 : isV _ (vs 6) w := hd 6 (by decide) (by kernel_rfl); unfold isV at d6; have d7 : isV _ (vs 7) w := hd 7 (by decide) (by kernel_rfl); unfold isV at d7; have d8 : isV _ (vs 8) w := hd 8 (by decide) (by kernel_rfl); unfold isV at d8; have d9 := hd 9 (by decide) (by kernel_rfl); simp only [TR, Nat.reduceAdd, Nat.reduceSub, List.getD_cons_zero, List.getD_cons_succ] at d9; have d10 : isV _ (vs 10) w := hd 10 (by decide) (by kernel_rfl); unfold isV at d10; have d11 : isV _ (vs 11) w := hd 11 (by decide) (by kernel_rfl); unfold isV at d11; have d12 : isV _ (vs 12) w := hd 12 (by decide) (by kernel_rfl); unfold isV at d12; have d13 : isV _ (vs 13) w := hd 13 (by decide) (by kernel_rfl); unfold isV at d13; clear hd; simp only [List.take, putL, Act.put, List.setIfInBounds_toArray, List.set_cons_zero, List.set_cons_succ]; unfold StepOK; go_simp; exact ⟨Below.refl _ _, isV_mk _ _⟩
  intro vs w1 hb hd
  have e0 : isV _ (vs 0) w1 := hd 0 (by decide)
  have e1 : isV _ (vs 1) w1 := hd 1 (by decide)
  have e2 : isV _ (vs 2) w1 := hd 2 (by decide)
  have e3 : isV _ (vs 3) w1 := hd 3 (by decide)
  have e4 : isV _ (vs 4) w1 := hd 4 (by decide)
  have e5 : isV _ (vs 5) w1 := hd 5 (by decide)
  have e6 : isV _ (vs 6) w1 := hd 6 (by decide)
  have e7 : isV _ (vs 7) w1 := hd 7 (by decide)
  have e8 : isV _ (vs 8) w1 := hd 8 (by decide)
  have e9 := hd 9 (by decide); simp only [TR, Nat.reduceAdd, Nat.reduceSub, List.getD_cons_zero, List.getD_cons_succ] at e9
  have e10 : isV _ (vs 10) w1 := hd 10 (by decide)
  have e11 : isV _ (vs 11) w1 := hd 11 (by decide)
  have e12 : isV _ (vs 12) w1 := hd 12 (by decide)
  have e13 : isV _ (vs 13) w1 := hd 13 (by decide)
  have e14 : isV _ (vs 14) w1 := hd 14 (by decide)
  clear hd
  unfold isV at e0 e1 e2 e3 e4 e5 e6 e7 e8 e10 e11 e12 e13 e14
  simp only [putL, Act.put, List.setIfInBounds_toArray, List.set_cons_zero, List.set_cons_succ, e0, e1, e2, e3, e4, e5, e6, e7, e8, e10, e11, e12, e13, e14]
  clear e0 e1 e2 e3 e4 e5 e6 e7 e8 e10 e11 e12 e13 e14
  --@end
  have hc0 := cellB hb HC0.out
  have hHb := Lib.hid hb
  have H1 := Lib.hid (H.out.below hb)
  have ho := Hown.out.below hb
  have k0 := World.ownsRow.cellAt ho 0 (by omega)
  have k1 := World.ownsRow.cellAt ho 1 (by omega)
  have k2 := World.ownsRow.cellAt ho 2 (by omega)
  simp only [List.getElem?_cons_zero, List.getElem?_cons_succ] at k0 k1 k2
  have f0 := World.ownsRow.frozenAt ho 0
  have f1 := World.ownsRow.frozenAt ho 1
  have f2 := World.ownsRow.frozenAt ho 2
  have Ho := Lib.hid ho
  clear hb ho
  cases th with
  | false =>
    have st := stored3 Ho.out (.string { data := #[] }) (.slice none 0 0) (.int .i64 0)
    have Hst := Lib.hid st
    clear st
    go_wp2_with fail
    refine bodyPost_ret (results_cellD rfl _ _ _ ⟨r, 0, none⟩ rfl _ (load_ownD Hst.out.1)) rfl ?_
    have hlk : lookF D.fs nm = ⟨[], [], 0⟩ := by rw [HL.out, ← Hth2.out]
    rw [hlk]
    exact ⟨none, 0, rfl, (Hb0.out.trans (hHb.out.mono Hb0.out.size)).grown Hst.out.2 (Nat.le_trans Hb0.out.size hHb.out.size) (fun k hk => by cases hk; rw [Hr.out]; exact Nat.le_refl _)⟩
  | true =>
    obtain ⟨f, hf, hfn⟩ := there_true Hth2.out.symm
    rw [← Hps2.out] at hf
    obtain ⟨e, he, hef⟩ : ∃ e, es[ps]? = some e ∧ e.f = f := by
      rw [← H.out.fs, List.getElem?_map, Option.map_eq_some_iff] at hf
      exact hf
    subst hef
    obtain ⟨g, rfl⟩ := rowAddr H1.out he
    obtain ⟨y0, y1, y2⟩ := slFE_three H1.out.row.sl he
    rw [add_plain] at y0 y1 y2
    simp only [] at y1 y2
    have hlt := (List.getElem?_eq_some_iff.1 he).1
    have hin : (0 : Int) ≤ (ps : Int) ∧ (ps : Int) < (es.length : Int) := by omega
    have hp2 : ps < 200 := by omega
    have st := stored3 Ho.out (.string (bstr e.f.nm)) (.slice e.A e.f.b.length e.c) (.int .i64 e.f.safe)
    have Hst := Lib.hid st
    have HLK := Lib.hid (show lookF D.fs nm = e.f by rw [HL.out, ← Hth2.out, ← Hps2.out, hf])
    clear st hf he hfn
    go_wp2_with fail
    refine bodyPost_ret (results_cellD rfl _ _ _ ⟨r, 0, none⟩ rfl _ (load_ownD Hst.out.1)) rfl ?_
    rw [HLK.out]
    exact ⟨e.A, e.c, rfl, (Hb0.out.trans (hHb.out.mono Hb0.out.size)).grown Hst.out.2 (Nat.le_trans Hb0.out.size hHb.out.size) (fun k hk => by cases hk; rw [Hr.out]; exact Nat.le_refl _)⟩
set_option maxRecDepth 100000 in
set_option maxHeartbeats 1000000 in
theorem Size_any (h : DkIs w base p D F) (nm : Nm) :
    Calls Tryz.prog 64 #[.pointer (some ⟨p, 0, none⟩), .string (bstr nm)] w fun x w' => x = .returned (.int .i64 ((lookF D.fs nm).b.length : Int)) ∧ Below w.heap.size w w' := by
  have hfd : ∀ (a b d : Value) (W : World), (Instr.field 79 (.agg #[a, b, d]) 1).run Tryz.prog W = .ok b W := fun a b d W => by first | rfl | kernel_rfl | simp [Instr.field]
  go_enter Tryz.func64, Tryz.ntmps64
  go_wp2_with fail
  refine (look_any h nm).mono ?_; rintro x w1 ⟨A, c, rfl, hb⟩
  have Hb := Lib.hid hb
  clear h hb
  generalize hf : lookF D.fs nm = f
  have Hf := Lib.hid hf
  clear hf
  go_wp2_with fail
  go_ret
  exact ⟨by rw [Hf.out]; rfl, Hb.out⟩
set_option maxRecDepth 100000 in
set_option maxHeartbeats 1000000 in
theorem Synced_any (h : DkIs w base p D F) (nm : Nm) :
    Calls Tryz.prog 92 #[.pointer (some ⟨p, 0, none⟩), .string (bstr nm)] w fun x w' => x = .returned (.int .i64 ((lookF D.fs nm).safe : Int)) ∧ Below w.heap.size w w' := by
  have hfd : ∀ (a b d : Value) (W : World), (Instr.field 79 (.agg #[a, b, d]) 2).run Tryz.prog W = .ok d W := fun a b d W => by first | rfl | kernel_rfl | simp [Instr.field]
  go_enter Tryz.func92, Tryz.ntmps92
  go_wp2_with fail
  refine (look_any h nm).mono ?_; rintro x w1 ⟨A, c, rfl, hb⟩
  have Hb := Lib.hid hb
  clear h hb
  generalize hf : lookF D.fs nm = f
  have Hf := Lib.hid hf
  clear hf
  go_wp2_with fail
  go_ret
  exact ⟨by rw [Hf.out]; rfl, Hb.out⟩
end
end Go.Proofs.YtemegkapmgcffaaGreat

/- The disk: New, told. -/
namespace Go.Proofs.YtemegkapmgcffaaGreat
open Go.RowKit
set_option linter.unusedSimpArgs false
set_option linter.unusedVariables false

def newD (room : Int) : Dk := ⟨room, -1, false, []⟩
theorem good_new {room : Int} (h : 0 ≤ room ∧ room ≤ 16777216) : Good (newD room) := by
  refine ⟨fun i j x y _ hx _ => ?_, h, by simp [newD], by simp [newD], fun f hf => by simp [newD] at hf, by simp [newD, usedF]; exact h.1, fun f hf => by simp [newD] at hf⟩
  simp [newD] at hx
theorem own_nilD (base : Nat) (w : World) : Own base 79 3 w none 0 0 (flatFE []) := ⟨rfl, .inl ⟨rfl, rfl⟩⟩
set_option maxRecDepth 100000 in
set_option maxHeartbeats 1000000 in
theorem New_ok {base : Nat} (room : Int) (w : World) (h : 0 ≤ room ∧ room ≤ 16777216) (hbase : base ≤ w.heap.size) :
    Calls Tryz.prog 4 #[.int .i64 room] w fun x w' => ∃ p F, x = .returned (.tuple #[.pointer (some ⟨p, 0, none⟩), .int .i64 0]) ∧ DkIs w' base p (newD room) F ∧ (∀ q, F q → w.heap.size ≤ q) ∧ Below w.heap.size w w' := by
  have h1 : ¬ (room < 0) := by omega
  have h2 : ¬ (16777216 < room) := by omega
  have hb := below_alloc1 w (.cells #[.slice none 0 0, .int .i64 room, .int .i64 (-1), .bool false, .func (.func 23) #[] #[]] 64)
  have hown := new_own w [.slice none 0 0, .int .i64 room, .int .i64 (-1), .bool false, .func (.func 23) #[] #[]] 64 5 rfl (by unfold maxLen; omega)
  have Hb := Lib.hid hb
  have Hown := Lib.hid hown
  clear hb hown
  go_enter Tryz.func4, Tryz.ntmps4
  go_wp2_with fail
  go_ret2
  refine ⟨w.heap.size, rfl, fun q => q = w.heap.size, ⟨none, 0, [], ⟨Own.lower Hown.out hbase, own_nilD _ _, fun e he => by simp at he, rfl, good_new h, rfl, fun a ha => (by cases ha), fun k hk => (by have hk2 : k = w.heap.size := hk; subst hk2; exact ⟨hbase, by simp⟩)⟩⟩, fun q hq => Nat.le_of_eq (Eq.symm hq), Hb.out⟩
/-- told: a list of numbers, read past its end as 0 -/
theorem told_any (A : Option Addr) (n c : Nat) (l : List Int) (i : Nat) (w : World) (hs : Sl w 1 A n c (l.map fun x => .int .i64 x)) (hn : n ≤ 9223372036854775807) :
    Calls Tryz.prog 52 #[.slice A n c, .int .i64 (i : Int)] w fun x w' => x = .returned (.int .i64 (toldI l i)) ∧ w = w' := by
  have hl : l.length = n := by have := hs.len; simpa using this
  have HT := Lib.hid (show toldI l i = match l[i]? with | some x => if x < 0 then 0 else x | none => 0 from rfl)
  by_cases hi : n ≤ i
  · have h1 : decide ((n : Int) ≤ (i : Int)) = true := by simpa using hi
    go_enter Tryz.func52, Tryz.ntmps52
    go_wp2_with fail
    go_ret
    exact ⟨by rw [HT.out, List.getElem?_eq_none (by omega)]; rfl, rfl⟩
  · have h1 : decide ((n : Int) ≤ (i : Int)) = false := by simp; omega
    obtain ⟨x, hx⟩ : ∃ x, l[i]? = some x := ⟨_, List.getElem?_eq_getElem (by omega)⟩
    obtain ⟨a, rfl, hc⟩ := hs.cells i (.int .i64 x) (by rw [List.getElem?_map, hx]; rfl)
    have hin : (0 : Int) ≤ (i : Int) ∧ (i : Int) < (n : Int) := by omega
    by_cases h0 : x < 0
    · have h2 : decide (x < 0) = true := by simpa using h0
      go_enter Tryz.func52, Tryz.ntmps52
      go_wp2_with fail
      go_ret
      exact ⟨by rw [HT.out, hx]; simp only [if_pos h0]; rfl, rfl⟩
    · have h2 : decide (x < 0) = false := by simpa using h0
      go_enter Tryz.func52, Tryz.ntmps52
      go_wp2_with fail
      go_ret
      exact ⟨by rw [HT.out, hx]; simp only [if_neg (show ¬ (x < 0) by omega)]; rfl, rfl⟩
end Go.Proofs.YtemegkapmgcffaaGreat

/- The disk: Used. -/
namespace Go.Proofs.YtemegkapmgcffaaGreat
open Go.RowKit
set_option linter.unusedSimpArgs false
set_option linter.unusedVariables false

theorem used_take {fs : List Fl} {k : Nat} {f : Fl} (h : fs[k]? = some f) : usedF (fs.take (k + 1)) = usedF (fs.take k) + f.b.length := by
  have hk := (List.getElem?_eq_some_iff.1 h).1
  rw [List.take_add_one, h]
  unfold usedF
  simp
theorem used_take_le (fs : List Fl) (k : Nat) : usedF (fs.take k) ≤ usedF fs := by
  have h : usedF fs = usedF (fs.take k) + usedF (fs.drop k) := by
    unfold usedF
    rw [← List.sum_append, ← List.map_append, List.take_append_drop]
  omega
section
variable {w : World} {base p : Nat} {D : Dk} {F : Nat → Prop}
set_option maxRecDepth 100000 in
set_option maxHeartbeats 4000000 in
theorem Used_any (h : DkIs w base p D F) :
    Calls Tryz.prog 35 #[.pointer (some ⟨p, 0, none⟩)] w fun x w' => x = .returned (.int .i64 (usedF D.fs : Int)) ∧ Below w.heap.size w w' := by
  obtain ⟨R, c, es, h⟩ := h
  have H := Lib.hid h
  have hl200 := h.len
  obtain ⟨c0, c1, c2, c3, c4⟩ := h.cell
  have hus : ∀ k, usedF (D.fs.take k) ≤ 16777216 := fun k => by have := used_take_le D.fs k; have := h.good.used; have := h.good.room; omega
  have Hus := Lib.hid hus
  clear hus c1 c2 c3 c4
  go_enter Tryz.func35, Tryz.ntmps35
  go_wp2_with fail
  refine (made_any h).mono ?_; rintro e w1 ⟨rfl, rfl⟩
  clear h
  go_wp2_with fail
  go_loopw [3, 13] (fun s3 s13 wx => ∃ (k : Nat), k ≤ es.length ∧ s3 = .int .i64 (usedF (D.fs.take k) : Int) ∧ s13 = .int .i64 (k : Int) ∧ Hid (Below w.heap.size w wx)) (fun _ iv _ => es.length - (intOf iv).toNat)
  case atStart => exact ⟨0, by omega, rfl, rfl, Lib.hid (Below.refl _ _)⟩
  case round =>
    obtain ⟨k, hk, rfl, rfl, HB⟩ := hrel
    by_cases h1 : (k : Int) < (es.length : Int)
    · obtain ⟨t, ht⟩ := get_some es k (by omega)
      obtain ⟨g, rfl⟩ := rowAddr H.out ht
      have hdx := H.out.below HB.out
      obtain ⟨y0, y1, y2⟩ := slFE_three hdx.row.sl ht
      rw [add_plain] at y0 y1 y2
      simp only [] at y1 y2
      have hin : (0 : Int) ≤ (k : Int) ∧ (k : Int) < (es.length : Int) := by omega
      have hu1 := used_take (H.out.fsAt ht)
      have hu2 := Hus.out (k + 1)
      obtain ⟨u, hu⟩ : ∃ u, u = usedF (D.fs.take k) := ⟨_, rfl⟩
      rw [← hu] at hu1
      rw [← hu]
      have hwr : IntKind.i64.wrap ((u : Int) + (t.f.b.length : Int)) = (u : Int) + (t.f.b.length : Int) := by rw [IntKind.wrap_i64]; omega
      have hwk : IntKind.i64.wrap ((k : Int) + 1) = (k : Int) + 1 := by rw [IntKind.wrap_i64]; omega
      have HU := Lib.hid hu1
      have hba := Lib.hid (HB.out.trans ((below_alloc1 _ (.cells #[.string (bstr t.f.nm), .slice t.A t.f.b.length t.c, .int .i64 t.f.safe] 79)).mono HB.out.size))
      clear hdx ht hu1 hu2 hu
      go_wp2_with fail
      go_roundw
      case rel => exact ⟨k + 1, by omega, by rw [HU.out]; congr 1, by congr 1, hba⟩
      case measure => simp [intOf]; omega
    · obtain rfl : k = es.length := by omega
      have hfl : D.fs.take es.length = D.fs := by
        have : es.length = D.fs.length := by rw [← H.out.fs, List.length_map]
        rw [this, List.take_length]
      have HFL := Lib.hid hfl
      clear hfl
      go_wp2_with fail
      go_ret
      exact ⟨by rw [HFL.out]; rfl, HB.out⟩
end
end Go.Proofs.YtemegkapmgcffaaGreat

/- The disk: List. -/
namespace Go.Proofs.YtemegkapmgcffaaGreat
open Go.RowKit
set_option linter.unusedSimpArgs false
set_option linter.unusedVariables false

theorem infoStrD : (Tryz.prog.info? 9).map (fun i => (i.zero, i.size, i.bytes)) = some (some (.string { data := #[] }), 1, 16) := by kernel_rfl
def nmV (fs : List Fl) : List Value := fs.map fun f => .string (bstr f.nm)
def halfN (fs : List Fl) (k : Nat) : List Value := (nmV fs).take k ++ List.replicate (fs.length - k) (.string { data := #[] })
theorem half_get {fs : List Fl} {k : Nat} (hk : k < fs.length) : (halfN fs k)[k]? = some (.string { data := #[] }) := by
  have hl : ((nmV fs).take k).length = k := by simp [nmV]; omega
  unfold halfN
  rw [List.getElem?_append_right (by omega), hl, Nat.sub_self, List.getElem?_replicate, if_pos (by omega)]
theorem half_set {fs : List Fl} {k : Nat} {f : Fl} (h : fs[k]? = some f) : (halfN fs k).set k (.string (bstr f.nm)) = halfN fs (k + 1) := by
  have hk := (List.getElem?_eq_some_iff.1 h).1
  obtain ⟨m, hm⟩ : ∃ m, fs.length - k = m + 1 := ⟨fs.length - k - 1, by omega⟩
  have hl : ((nmV fs).take k).length = k := by simp [nmV]; omega
  have hx : (nmV fs)[k]? = some (.string (bstr f.nm)) := by simp [nmV, h]
  unfold halfN
  rw [hm, List.set_append_right _ _ (by omega), hl, Nat.sub_self, List.replicate_succ, List.set_cons_zero, List.take_add_one, hx, show fs.length - (k + 1) = m by omega]
  simp
theorem half_all (fs : List Fl) : halfN fs fs.length = nmV fs := by
  unfold halfN
  rw [List.take_of_length_le (by simp [nmV]), Nat.sub_self]
  simp
section
variable {w : World} {base p : Nat} {D : Dk} {F : Nat → Prop}
set_option maxRecDepth 100000 in
set_option maxHeartbeats 4000000 in
theorem List_any (h : DkIs w base p D F) :
    Calls Tryz.prog 61 #[.pointer (some ⟨p, 0, none⟩)] w fun x w' => ∃ A c, x = .returned (.slice A D.fs.length c) ∧ Own w.heap.size 9 1 w' A D.fs.length c (nmV D.fs) ∧ Below w.heap.size w w' := by
  obtain ⟨R, c, es, h⟩ := h
  have H := Lib.hid h
  have hl200 := h.len
  have hfl : D.fs.length = es.length := by rw [← h.fs, List.length_map]
  obtain ⟨c0, c1, c2, c3, c4⟩ := h.cell
  obtain ⟨i0, hi, hz0, hz1, hz2⟩ := info_parts infoStrD
  have Hfl := Lib.hid hfl
  clear c1 c2 c3 c4 hfl
  go_enter Tryz.func61, Tryz.ntmps61
  go_wp2_with fail
  refine (made_any h).mono ?_; rintro e w1 ⟨rfl, rfl⟩
  clear h
  go_wp2_with (at_make; refine wpList_make_full _ rfl _ _ 33 rfl w.heap.size 9 i0 (.string { data := #[] }) 1 Tryz.underlying33 hi hz0 hz1 _ _ _ _ es.length rfl rfl rfl rfl (by rw [hz2]; omega) (by unfold maxLen; omega) (Nat.le_refl _) ?_; intro w1 hown1 hgrow1; have hb1 := grownBy_below hgrow1; have hx9 := cellB hb1 c0)
  obtain ⟨r, hr⟩ : ∃ r, r = w.heap.size := ⟨_, rfl⟩
  have Hr := Lib.hid hr
  have hown2 : Own r 9 1 w1 (some ⟨r, 0, none⟩) es.length es.length (halfN D.fs 0) := by
    have h5 := hown1
    rw [← hr] at h5
    have : halfN D.fs 0 = (madeCells (Value.string { data := #[] }).cells (es.length * 1)).toList := by
      unfold halfN
      rw [Hfl.out]
      simp [madeCells, Value.cells]
      apply List.ext_getElem (by simp)
      intro j _ _
      simp [Nat.mod_one]
    rw [this]
    exact h5
  clear hown1 hgrow1
  have Hown2 := Lib.hid hown2
  have Hb1 := Lib.hid hb1
  clear hown2 hb1
  subst hr
  go_loopw [20] (fun s20 wx => ∃ (k : Nat), k ≤ es.length ∧ s20 = .int .i64 (k : Int) ∧ Hid (Own w.heap.size 9 1 wx (some ⟨w.heap.size, 0, none⟩) es.length es.length (halfN D.fs k)) ∧ Hid (Below w.heap.size w wx)) (fun iv _ => es.length - (intOf iv).toNat)
  case atStart => exact ⟨0, by omega, rfl, Hown2, Hb1⟩
  case round =>
    obtain ⟨k, hk, rfl, HO, HB⟩ := hrel
    by_cases h1 : (k : Int) < (es.length : Int)
    · obtain ⟨t, ht⟩ := get_some es k (by omega)
      obtain ⟨g, rfl⟩ := rowAddr H.out ht
      have hdx := H.out.below HB.out
      obtain ⟨y0, y1, y2⟩ := slFE_three hdx.row.sl ht
      rw [add_plain] at y0 y1 y2
      simp only [] at y1 y2
      have hin : (0 : Int) ≤ (k : Int) ∧ (k : Int) < (es.length : Int) := by omega
      have hwk : IntKind.i64.wrap ((k : Int) + 1) = (k : Int) + 1 := by rw [IntKind.wrap_i64]; omega
      have ho := HO.out.below (below_alloc1 _ (.cells #[.string (bstr t.f.nm), .slice t.A t.f.b.length t.c, .int .i64 t.f.safe] 79))
      have st := World.ownsRow.stored ho k (.string (bstr t.f.nm))
      have x0 := World.ownsRow.cellAt ho k (by omega)
      rw [half_get (by rw [Hfl.out]; omega)] at x0
      have x1 := World.ownsRow.frozenAt ho k
      have hst1 := st.1
      rw [half_set (H.out.fsAt ht)] at hst1
      have HO2 := Lib.hid hst1
      have HB2 := Lib.hid ((HB.out.trans ((below_alloc1 _ (.cells #[.string (bstr t.f.nm), .slice t.A t.f.b.length t.c, .int .i64 t.f.safe] 79)).mono HB.out.size)).grown st.2 (Nat.le_trans HB.out.size (below_alloc1 _ _).size) (fun q hq => by cases hq; exact Nat.le_refl _))
      clear hdx ht ho st hst1
      go_wp2_with fail
      go_roundw
      case rel => exact ⟨k + 1, by omega, by congr 1, HO2, HB2⟩
      case measure => simp [intOf]; omega
    · obtain rfl : k = es.length := by omega
      go_wp2_with fail
      go_ret
      have h5 := HO.out
      have h6 := half_all D.fs
      rw [Hfl.out] at h6
      rw [h6] at h5
      rw [Hfl.out]
      exact ⟨_, _, rfl, h5, HB.out⟩
end
end Go.Proofs.YtemegkapmgcffaaGreat
