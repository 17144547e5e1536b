import Derived.Test.YtemegkapmgcffaaDkG
/- The disk: Cut. -/
namespace Go.Proofs.Ytemegkapmgcffaa
open Go.RowKit
set_option linter.unusedSimpArgs false
set_option linter.unusedVariables false

theorem infoByteC : (Try.prog.info? 5).map (fun i => (i.zero, i.size, i.bytes)) = some (some (.int .u8 0), 1, 1) := by kernel_rfl
set_option maxHeartbeats 400000 in
theorem cloneS_any (A : Addr) (n c : Nat) (l : List UInt8) (w : World) (hs : Sl w 1 (some A) n c (bytesV l)) (hl : n ≤ 70368744175616) :
    Calls Try.prog 80 #[.slice (some A) n c] w fun e w' => ∃ v, e = .returned v ∧ w'.ownsRow w.heap.size 5 1 v n (bytesV l) ∧ Below w.heap.size w w' := by
  obtain ⟨i0, hi, hz0, hz1, hz2⟩ := info_parts infoByteC
  have hown : (w.alloc (.cells #[] 5)).ownsRow w.heap.size 5 1 (.slice (some ⟨w.heap.size, 0, none⟩) 0 0) 0 [] := World.ownsRow_lit w #[] 0 (Nat.le_refl _) (by unfold maxLen; omega) rfl
  have hb := below_alloc1 w (.cells #[] 5)
  have hnil : ∀ W, (binOp .eql 22 (.slice (some A) n c) (.slice none 0 0)).run Try.prog W = .ok (.bool false) W := fun W => Lib.run_eql_slice_some_nil W _ _ _ Try.underlying22
  go_enter Try.func80, Try.ntmps80
  go_wp2_with (at_builtin; refine wpList_append_own _ rfl _ _ 22 rfl w.heap.size 5 i0 (.int .u8 0) 1 1 Try.underlying22 hi hz0 hz1 hz2 rfl (by decide) _ 0 [] rfl hown A n c (bytesV l) rfl hs.len (fun j u hj => by obtain ⟨ad', h1, h2⟩ := (hs.below hb).cells j u hj; cases h1; exact h2) (bytesV_one l) (by unfold maxLen; omega) (by omega) (by simp) ?_; intro v' w2 hown2 hgrow2 hnil2)
  go_ret
  refine ⟨_, rfl, by simpa using hown2, hb.trans ((Below.refl _ _).grown hgrow2 (by simp) (fun k hk => by cases hk; exact Nat.le_refl _))⟩
set_option maxHeartbeats 400000 in
theorem cloneN_any (w : World) :
    Calls Try.prog 80 #[.slice none 0 0] w fun e w' => e = .returned (.slice none 0 0) ∧ Below w.heap.size w w' := by
  have hnil : ∀ W, (binOp .eql 22 (.slice none 0 0) (.slice none 0 0)).run Try.prog W = .ok (.bool true) W := fun W => Lib.run_eql_slice_nil_nil W _ _ Try.underlying22
  go_enter Try.func80, Try.ntmps80
  go_wp2_with fail
  go_ret
  exact ⟨rfl, Below.refl _ _⟩
theorem own_lt {base size n c : Nat} {e : TypeId} {w : World} {A : Option Addr} {cs : List Value} (h : Own base e size w A n c cs) : ∀ a, A = some a → base ≤ a.block ∧ a.block < w.heap.size := by
  intro a ha
  subst ha
  rcases h.2 with ⟨h0, _⟩ | ⟨g, cap, cur, h0, h1, h2, h3⟩
  · simp at h0
  · simp only [Value.slice.injEq] at h0
    obtain ⟨h4, _⟩ := h0
    cases h4
    exact ⟨h1, (Array.getElem?_eq_some_iff.1 h2).1⟩
def isCl (B n : Nat) (l : List UInt8) : Value → World → Prop := fun v w => ∃ A c, v = .slice A n c ∧ Own B 5 1 w A n c (bytesV l)
theorem isCl_elim {B n : Nat} {l : List UInt8} {v : Value} {w : World} (h : isCl B n l v w) : ∃ A c, v = .slice A n c ∧ Own B 5 1 w A n c (bytesV l) := h
def Gk (g : Nat) : Nat → Prop := fun q => q = g
theorem isCl_stable {B n g : Nat} {l : List UInt8} (hg : g < B) : StableR (Cg (Gk g) (Gk g)) (isCl B n l) := fun _ _ _ hr ⟨A, c, h1, h2⟩ => ⟨A, c, h1, own_same h2 (fun a ha => hr.block _ (own_lt h2 a ha).2 (fun e => by have := (own_lt h2 a ha).1; unfold Gk at e; omega))⟩
theorem clone_such {B n c : Nat} {l : List UInt8} {A : Option Addr} {w : World} (hB : B ≤ w.heap.size) (h : Sl w 1 A n c (bytesV l) ∧ n ≤ 70368744175616) :
    Calls Try.prog 80 #[.slice A n c] w fun e w' => ∃ v, e = .returned v ∧ Below w.heap.size w w' ∧ isCl B n l v w' := by
  cases A with
  | none =>
    obtain ⟨rfl, rfl⟩ := h.1.none rfl
    refine (cloneN_any w).mono fun e w' ⟨h1, h2⟩ => ⟨_, h1, h2, none, 0, rfl, ?_⟩
    have := h.1.len
    exact ⟨this, .inl ⟨rfl, rfl⟩⟩
  | some a =>
    refine (cloneS_any a n c l w h.1 h.2).mono fun e w' ⟨v, h1, h2, h3⟩ => ?_
    have h5 := h2
    rcases h2.2 with ⟨h4, h6⟩ | ⟨g, cap, cur, h4, _⟩
    · refine ⟨v, h1, h3, none, 0, by rw [h4, h6], ?_⟩
      rw [h4] at h5
      exact Own.lower (by unfold Own; rw [h6] at h5 ⊢; exact h5) hB
    · refine ⟨v, h1, h3, _, cap, h4, ?_⟩
      rw [h4] at h5
      exact Own.lower h5 hB
theorem DI.widen {w : World} {base p : Nat} {D : Dk} {F F' : Nat → Prop} {R : Option Addr} {c : Nat} {es : List FE} (h : DI w base p D F R c es) (hF : ∀ q, F q → F' q) (hb : ∀ q, F' q → base ≤ q ∧ q < w.heap.size) : DI w base p D F' R c es :=
  ⟨h.own, h.row, fun x hx => ⟨(h.each x hx).1, fun a ha => ⟨hF _ ((h.each x hx).2 a ha).1, ((h.each x hx).2 a ha).2⟩⟩, h.fs, h.good, hF _ h.fp, fun a ha => ⟨hF _ (h.fr a ha).1, (h.fr a ha).2⟩, hb⟩
/-- the file's bytes are cut, how much is safe is not told yet -/
def JCut (B base p : Nat) (D : Dk) (F : Nat → Prop) (g c : Nat) (es : List FE) (k : Nat) (e : FE) (n : Nat) (w : World) : Prop :=
  ∃ (w0 : World) (A' : Option Addr) (c' : Nat), DI w0 base p D F (some ⟨g, 0, none⟩) c es ∧ w0.grownBy w (some g) ∧ B ≤ w0.heap.size ∧ Own B 5 1 w0 A' n c' (bytesV (e.f.b.take n)) ∧ Own base 117 3 w (some ⟨g, 0, none⟩) es.length c (flatFE (es.set k ⟨⟨e.f.nm, e.f.b.take n, e.f.safe⟩, A', c'⟩))
section
variable {B base p : Nat} {D : Dk} {F : Nat → Prop} {g c : Nat} {es : List FE} {k : Nat} {e : FE} {n : Nat} {w w' : World}
theorem JCut_below (h : JCut B base p D F g c es k e n w) (hb : Below w.heap.size w w') : JCut B base p D F g c es k e n w' := by
  obtain ⟨w0, A', c', h1, h2, h3, h4, h5⟩ := h
  exact ⟨w0, A', c', h1, grown_below h2 hb, h3, h4, h5.below hb⟩
theorem cut_first {A' : Option Addr} {c' : Nat} (h : DI w base p D F (some ⟨g, 0, none⟩) c es) (he : es[k]? = some e) (hn : n ≤ e.f.b.length) (ho : Own B 5 1 w A' n c' (bytesV (e.f.b.take n))) (hB : B ≤ w.heap.size) :
    w.cell? ⟨g, k * 3 + 1, none⟩ = some (.slice e.A e.f.b.length e.c) ∧ w.frozen? ⟨g, k * 3 + 1, none⟩ = false ∧ Cg (Gk g) (Gk g) w (w.setCell ⟨g, k * 3 + 1, none⟩ (.slice A' n c')) ∧ JCut B base p D F g c es k e n (w.setCell ⟨g, k * 3 + 1, none⟩ (.slice A' n c')) := by
  obtain ⟨y0, y1, y2⟩ := slFE_three h.row.sl he
  rw [add_plain] at y1
  have st := World.ownsRow.stored h.row (k * 3 + 1) (.slice A' n c')
  refine ⟨y1, World.ownsRow.frozenAt h.row _, Cg.grown st.2 rfl, w, A', c', h, st.2, hB, ho, ?_⟩
  rw [flat_set he 1 (.slice A' n c') (by omega) (by simp [feC, List.length_take, Nat.min_eq_left hn])]
  exact st.1
theorem JCut_store (h : JCut B base p D F g c es k e n w) (he : es[k]? = some e) (hn : n ≤ e.f.b.length) (hFB : ∀ q, F q → q < B) :
    w.cell? ⟨g, k * 3 + 2, none⟩ = some (.int .i64 (e.f.safe : Int)) ∧ w.frozen? ⟨g, k * 3 + 2, none⟩ = false ∧ Cg (Gk g) (Gk g) w (w.setCell ⟨g, k * 3 + 2, none⟩ (.int .i64 (n : Int))) ∧
      ∃ F', DkIs (w.setCell ⟨g, k * 3 + 2, none⟩ (.int .i64 (n : Int))) base p { D with fs := D.fs.set k ⟨e.f.nm, e.f.b.take n, n⟩ } F' ∧ ∀ q, F' q → F q ∨ B ≤ q := by
  obtain ⟨w0, A', c', h0, hg, hB, ho, hr⟩ := h
  have hk := (List.getElem?_eq_some_iff.1 he).1
  have he1 : (es.set k ⟨⟨e.f.nm, e.f.b.take n, e.f.safe⟩, A', c'⟩)[k]? = some ⟨⟨e.f.nm, e.f.b.take n, e.f.safe⟩, A', c'⟩ := List.getElem?_set_self hk
  obtain ⟨y0, y1, y2⟩ := slFE_three hr.sl he1
  rw [add_plain] at y2
  have st := World.ownsRow.stored hr (k * 3 + 2) (.int .i64 (n : Int))
  have hlen : (e.f.b.take n).length = n := by rw [List.length_take]; exact Nat.min_eq_left hn
  have hpb := h0.plt
  have hpB := hFB p h0.fp
  have hgB := hFB g (h0.fr _ rfl).1
  have hw := h0.widen (F' := fun q => F q ∨ ∃ a, A' = some a ∧ q = a.block) (fun q hq => .inl hq) (fun q hq => by
    rcases hq with hq | ⟨a, ha, rfl⟩
    · exact h0.bound q hq
    · have := own_lt ho a ha; omega)
  have hgd := h0.good.setF (k := k) (f := e.f) (f' := ⟨e.f.nm, e.f.b.take n, n⟩) (h0.fsAt he) rfl (by simp only; omega) (by simp only; omega)
  have hgr := hg.trans st.2
  have hfin := hw.rowed (e' := ⟨⟨e.f.nm, e.f.b.take n, n⟩, A', c'⟩) rfl he hgr (by
      have := st.1
      rw [← flat_set (e' := ⟨⟨e.f.nm, e.f.b.take n, n⟩, A', c'⟩) he1 2 (.int .i64 (n : Int)) (by omega) rfl, List.set_set] at this
      exact this) hgd ⟨by
      simp only [hlen]
      exact (own_same ho (fun a ha => hgr.block _ (own_lt ho a ha).2 (fun e2 => by have := (own_lt ho a ha).1; have := Option.some.inj e2; omega))).sl, fun a ha => ⟨.inr ⟨a, ha, rfl⟩, by have := (own_lt ho a ha).1; omega, by have := (own_lt ho a ha).1; omega⟩⟩
  refine ⟨y2, World.ownsRow.frozenAt hr _, Cg.grown st.2 rfl, _, ⟨_, _, _, hfin.1⟩, fun q hq => ?_⟩
  rcases hq with hq | ⟨a, ha, rfl⟩
  · exact .inl hq
  · exact .inr (own_lt ho a ha).1
end
section
variable {W : World} {base p : Nat} {D : Dk} {F : Nat → Prop} {R : Option Addr} {c : Nat} {es : List FE}
set_option maxRecDepth 100000 in
set_option maxHeartbeats 8000000 in
theorem cut2_any (h : DI W base p D F R c es) {bx nb : Nat} (hbx : W.cell? ⟨bx, 0, none⟩ = some (.pointer (some ⟨p, 0, none⟩))) (hbF : ¬ F bx) {n : Nat} (hnb : W.cell? ⟨nb, 0, none⟩ = some (.int .i64 (n : Int))) (hnF : ¬ F nb) {k : Nat} {e : FE} (he : es[k]? = some e) (hn : n ≤ e.f.b.length) :
    Calls Try.prog 98 #[.int .i64 (k : Int), .pointer (some ⟨bx, 0, none⟩), .pointer (some ⟨nb, 0, none⟩)] W fun x w' => x = .returned (.tuple #[]) ∧ ∃ F', DkIs w' base p { D with fs := D.fs.set k ⟨e.f.nm, e.f.b.take n, n⟩ } F' ∧ Cg F F' W w' := by
  obtain ⟨g, rfl⟩ := rowAddr h he
  have hk := (List.getElem?_eq_some_iff.1 he).1
  have hl200 := h.len
  have hfg := h.fr _ rfl
  have hbg : ¬ Gk g bx := fun e2 => hbF (by unfold Gk at e2; rw [e2]; exact hfg.1)
  have hng : ¬ Gk g nb := fun e2 => hnF (by unfold Gk at e2; rw [e2]; exact hfg.1)
  have hpg : ¬ Gk g p := fun e2 => hfg.2 (by unfold Gk at e2; exact e2.symm)
  have hgB : g < W.heap.size := (h.bound g hfg.1).2
  have hin : (0 : Int) ≤ (k : Int) ∧ (k : Int) < (es.length : Int) := by omega
  have hk3 : k < 200 := by omega
  have hse := h.each e (List.mem_of_getElem? he)
  have hnc : (0 : Int) ≤ (n : Int) ∧ (n : Int) ≤ (e.c : Int) := by have := hse.1.le; omega
  have hbl : e.f.b.length ≤ 16777216 := by
    have h1 := used_set (f' := ⟨e.f.nm, [], 0⟩) (h.fsAt he)
    have h2 := h.good.used
    have h3 := h.good.room
    simp only [List.length_nil] at h1
    omega
  have HC0 := Lib.hid h.cell.1
  have HFB := Lib.hid (show ∀ q, F q → q < W.heap.size from fun q hq => (h.bound q hq).2)
  have Hs := Lib.hid (show ∀ w, Cg (Gk g) (Gk g) W w → Sl w 1 e.A n e.c (bytesV (e.f.b.take n)) ∧ n ≤ 70368744175616 from fun w hb => by
    refine ⟨?_, by omega⟩
    have h1 := sl_same hse.1 (fun a ha => hb.block _ (h.bound _ (hse.2 a ha).1).2 (fun e2 => (hse.2 a ha).2.2 _ rfl e2))
    have h2 : bytesV (e.f.b.take n) = (bytesV e.f.b).take n := by unfold bytesV; rw [List.map_take]
    refine ⟨fun j u hj => ?_, ?_, by have := h1.le; omega, fun ha => ⟨by have := (h1.none ha).1; omega, (h1.none ha).2⟩⟩
    · rw [h2, List.getElem?_take] at hj
      split at hj
      · exact h1.cells j u hj
      · cases hj
    · rw [h2, List.length_take, h1.len]; omega)
  have H := Lib.hid h
  have HBx := Lib.hid hbx
  have HNb := Lib.hid hnb
  have HFp := Lib.hid hfg.1
  clear h hbx hnb hfg hse hbl
  go_enter Try.func98, Try.ntmps98
  --@region 98 0 cut0.spec
  refine wp_region_runN [17, 24, 27] (fun _ w => DI w base p D F (some ⟨g, 0, none⟩) c es) (by kernel_rfl) (by kernel_rfl) (by kernel_rfl) (R := Cg (Gk g) (Gk g)) (fun _ _ h => Cg.below h) (fun _ _ _ => Cg.trans) (fun _ _ _ hb hj => DI.below hj hb) H.out ?_
  apply RunN.pure (by decide)
  · intro vs w hb hd; clear hd; have hx1 := box_kept hb HBx.out hbg; simp only [List.take, putL, Act.put, List.setIfInBounds_toArray, List.set_cons_zero, List.set_cons_succ]; unfold StepOK; go_simp; exact ⟨Below.refl _ _, isV_mk _ _⟩
  apply RunN.pure (by decide)
  · intro vs w hb hd; have d0 : isV _ (vs 0) w := hd 0 (by decide) (by kernel_rfl); unfold isV at d0; clear hd; simp only [List.take, putL, Act.put, List.setIfInBounds_toArray, List.set_cons_zero, List.set_cons_succ]; unfold StepOK; go_simp; exact ⟨Below.refl _ _, isV_mk _ _⟩
  apply RunN.pure (by decide)
  · intro vs w hb hd; have d1 : isV _ (vs 1) w := hd 1 (by decide) (by kernel_rfl); unfold isV at d1; clear hd; simp only [List.take, putL, Act.put, List.setIfInBounds_toArray, List.set_cons_zero, List.set_cons_succ]; unfold StepOK; go_simp; exact ⟨Below.refl _ _, isV_mk _ _⟩
  apply RunN.pure (by decide)
  · intro vs w hb hd; have d2 : isV _ (vs 2) w := hd 2 (by decide) (by kernel_rfl); unfold isV at d2; clear hd; have hx1 := box_kept hb HC0.out hpg; simp only [List.take, putL, Act.put, List.setIfInBounds_toArray, List.set_cons_zero, List.set_cons_succ]; unfold StepOK; go_simp; exact ⟨Below.refl _ _, isV_mk _ _⟩
  apply RunN.pure (by decide)
  · intro vs w hb hd; clear hd; simp only [List.take, putL, Act.put, List.setIfInBounds_toArray, List.set_cons_zero, List.set_cons_succ]; unfold StepOK; go_simp; exact ⟨Below.refl _ _, isV_mk _ _⟩
  apply RunN.pure (by decide)
  · intro vs w hb hd; clear hd; have hx1 := box_kept hb HBx.out hbg; simp only [List.take, putL, Act.put, List.setIfInBounds_toArray, List.set_cons_zero, List.set_cons_succ]; unfold StepOK; go_simp; exact ⟨Below.refl _ _, isV_mk _ _⟩
  apply RunN.pure (by decide)
  · intro vs w hb hd; have d5 : isV _ (vs 5) w := hd 5 (by decide) (by kernel_rfl); unfold isV at d5; clear hd; simp only [List.take, putL, Act.put, List.setIfInBounds_toArray, List.set_cons_zero, List.set_cons_succ]; unfold StepOK; go_simp; exact ⟨Below.refl _ _, isV_mk _ _⟩
  apply RunN.pure (by decide)
  · intro vs w hb hd; have d6 : isV _ (vs 6) w := hd 6 (by decide) (by kernel_rfl); unfold isV at d6; clear hd; simp only [List.take, putL, Act.put, List.setIfInBounds_toArray, List.set_cons_zero, List.set_cons_succ]; unfold StepOK; go_simp; exact ⟨Below.refl _ _, isV_mk _ _⟩
  apply RunN.pure (by decide)
  · intro vs w hb hd; have d7 : isV _ (vs 7) w := hd 7 (by decide) (by kernel_rfl); unfold isV at d7; clear hd; have hx1 := box_kept hb HC0.out hpg; simp only [List.take, putL, Act.put, List.setIfInBounds_toArray, List.set_cons_zero, List.set_cons_succ]; unfold StepOK; go_simp; exact ⟨Below.refl _ _, isV_mk _ _⟩
  apply RunN.pure (by decide)
  · intro vs w hb hd; clear hd; simp only [List.take, putL, Act.put, List.setIfInBounds_toArray, List.set_cons_zero, List.set_cons_succ]; unfold StepOK; go_simp; exact ⟨Below.refl _ _, isV_mk _ _⟩
  apply RunN.pure (by decide)
  · intro vs w hb hd; clear hd; have hx1 := box_kept hb HBx.out hbg; simp only [List.take, putL, Act.put, List.setIfInBounds_toArray, List.set_cons_zero, List.set_cons_succ]; unfold StepOK; go_simp; exact ⟨Below.refl _ _, isV_mk _ _⟩
  apply RunN.pure (by decide)
  · intro vs w hb hd; have d10 : isV _ (vs 10) w := hd 10 (by decide) (by kernel_rfl); unfold isV at d10; clear hd; simp only [List.take, putL, Act.put, List.setIfInBounds_toArray, List.set_cons_zero, List.set_cons_succ]; unfold StepOK; go_simp; exact ⟨Below.refl _ _, isV_mk _ _⟩
  apply RunN.pure (by decide)
  · intro vs w hb hd; have d11 : isV _ (vs 11) w := hd 11 (by decide) (by kernel_rfl); unfold isV at d11; clear hd; simp only [List.take, putL, Act.put, List.setIfInBounds_toArray, List.set_cons_zero, List.set_cons_succ]; unfold StepOK; go_simp; exact ⟨Below.refl _ _, isV_mk _ _⟩
  apply RunN.pure (by decide)
  · intro vs w hb hd; have d12 : isV _ (vs 12) w := hd 12 (by decide) (by kernel_rfl); unfold isV at d12; clear hd; have hx1 := box_kept hb HC0.out hpg; simp only [List.take, putL, Act.put, List.setIfInBounds_toArray, List.set_cons_zero, List.set_cons_succ]; unfold StepOK; go_simp; exact ⟨Below.refl _ _, isV_mk _ _⟩
  apply RunN.pure (by decide)
  · intro vs w hb hd; clear hd; simp only [List.take, putL, Act.put, List.setIfInBounds_toArray, List.set_cons_zero, List.set_cons_succ]; unfold StepOK; go_simp; exact ⟨Below.refl _ _, isV_mk _ _⟩
  apply RunN.pure (by decide)
  · intro vs w hb hd; have d13 : isV _ (vs 13) w := hd 13 (by decide) (by kernel_rfl); unfold isV at d13; have d14 : isV _ (vs 14) w := hd 14 (by decide) (by kernel_rfl); unfold isV at d14; clear hd; simp only [List.take, putL, Act.put, List.setIfInBounds_toArray, List.set_cons_zero, List.set_cons_succ]; unfold StepOK; go_simp; exact ⟨Below.refl _ _, isV_mk _ _⟩
  apply RunN.pure (by decide)
  · intro vs w hb hd; have d15 : isV _ (vs 15) w := hd 15 (by decide) (by kernel_rfl); unfold isV at d15; clear hd; simp only [List.take, putL, Act.put, List.setIfInBounds_toArray, List.set_cons_zero, List.set_cons_succ]; unfold StepOK; go_simp; exact ⟨Below.refl _ _, isV_mk _ _⟩
  refine RunN.effV (c := (.slice e.A e.f.b.length e.c)) (by decide) ((fun v w => v = .slice e.A e.f.b.length e.c ∧ DI w base p D F (some ⟨g, 0, none⟩) c es)) (fun _ _ _ hb hj => ⟨hj.1, DI.below hj.2 hb⟩) (by rfl) (fun v w h => h.1) ?_ ?_
  · intro vs w hb hd hj; have d16 : isV _ (vs 16) w := hd 16 (by decide) (by kernel_rfl); unfold isV at d16; clear hd; have hj2 := hj; (try simp only [prevE, lastV, List.mem_cons, List.not_mem_nil, or_false, Nat.reduceEqDiff, Nat.reduceAdd, if_true, if_false, reduceIte, or_true, true_or, or_self] at hj2); clear hj; obtain ⟨y0, y1, y2⟩ := slFE_three hj2.row.sl he; rw [add_plain] at y0 y1 y2; simp only [] at y1 y2; simp only [List.take, putL, Act.put, List.setIfInBounds_toArray, List.set_cons_zero, List.set_cons_succ]; unfold StepE; go_simp; first | exact Cg.below (Below.refl _ _) | exact ⟨Cg.below (Below.refl _ _), hj2⟩
  apply RunN.pure (by decide)
  · intro vs w hb hd; clear hd; have hx1 := box_kept hb HNb.out hng; simp only [List.take, putL, Act.put, List.setIfInBounds_toArray, List.set_cons_zero, List.set_cons_succ]; unfold StepOK; go_simp; exact ⟨Below.refl _ _, isV_mk _ _⟩
  apply RunN.pure (by decide)
  · intro vs w hb hd; have d17 : isV _ (vs 17) w := hd 17 (by decide) (by kernel_rfl); unfold isV at d17; have d18 : isV _ (vs 18) w := hd 18 (by decide) (by kernel_rfl); unfold isV at d18; clear hd; have hx1 := hnc; simp only [List.take, putL, Act.put, List.setIfInBounds_toArray, List.set_cons_zero, List.set_cons_succ]; unfold StepOK; go_simp; exact ⟨Below.refl _ _, isV_mk _ _⟩
  refine RunN.such (by decide) (isCl W.heap.size n (e.f.b.take n)) (isCl_stable hgB) ?_ ?_
  · intro vs w hb hd; have d19 : isV _ (vs 19) w := hd 19 (by decide) (by kernel_rfl); unfold isV at d19; clear hd; simp only [List.take, putL, Act.put, List.setIfInBounds_toArray, List.set_cons_zero, List.set_cons_succ]; unfold StepOK; go_simp; exact ⟨Below.refl _ _, clone_such hb.size (Hs.out _ hb)⟩
  apply RunN.pure (by decide)
  · intro vs w hb hd; clear hd; have hx1 := box_kept hb HNb.out hng; simp only [List.take, putL, Act.put, List.setIfInBounds_toArray, List.set_cons_zero, List.set_cons_succ]; unfold StepOK; go_simp; exact ⟨Below.refl _ _, isV_mk _ _⟩
  apply RunN.pure (by decide)
  · intro vs w hb hd; have d0 : isV _ (vs 0) w := hd 0 (by decide) (by kernel_rfl); unfold isV at d0; have d1 : isV _ (vs 1) w := hd 1 (by decide) (by kernel_rfl); unfold isV at d1; have d2 : isV _ (vs 2) w := hd 2 (by decide) (by kernel_rfl); unfold isV at d2; have d3 : isV _ (vs 3) w := hd 3 (by decide) (by kernel_rfl); unfold isV at d3; have d4 : isV _ (vs 4) w := hd 4 (by decide) (by kernel_rfl); unfold isV at d4; have d8 : isV _ (vs 8) w := hd 8 (by decide) (by kernel_rfl); unfold isV at d8; have d10 : isV _ (vs 10) w := hd 10 (by decide) (by kernel_rfl); unfold isV at d10; have d11 : isV _ (vs 11) w := hd 11 (by decide) (by kernel_rfl); unfold isV at d11; have d12 : isV _ (vs 12) w := hd 12 (by decide) (by kernel_rfl); unfold isV at d12; have d13 : isV _ (vs 13) w := hd 13 (by decide) (by kernel_rfl); unfold isV at d13; have d14 : isV _ (vs 14) w := hd 14 (by decide) (by kernel_rfl); unfold isV at d14; have d15 : isV _ (vs 15) w := hd 15 (by decide) (by kernel_rfl); unfold isV at d15; have d16 : isV _ (vs 16) w := hd 16 (by decide) (by kernel_rfl); unfold isV at d16; have d17 : isV _ (vs 17) w := hd 17 (by decide) (by kernel_rfl); unfold isV at d17; have d18 : isV _ (vs 18) w := hd 18 (by decide) (by kernel_rfl); unfold isV at d18; have d19 : isV _ (vs 19) w := hd 19 (by decide) (by kernel_rfl); unfold isV at d19; have d20 := hd 20 (by decide) (by kernel_rfl); simp only [TR, Nat.reduceAdd, Nat.reduceSub, List.getD_cons_zero, List.getD_cons_succ] at d20; clear hd; simp only [List.take, putL, Act.put, List.setIfInBounds_toArray, List.set_cons_zero, List.set_cons_succ]; unfold StepOK; go_simp; exact ⟨Below.refl _ _, isV_mk _ _⟩
  apply RunN.pure (by decide)
  · intro vs w hb hd; have d0 : isV _ (vs 0) w := hd 0 (by decide) (by kernel_rfl); unfold isV at d0; have d1 : isV _ (vs 1) w := hd 1 (by decide) (by kernel_rfl); unfold isV at d1; have d2 : isV _ (vs 2) w := hd 2 (by decide) (by kernel_rfl); unfold isV at d2; have d3 : isV _ (vs 3) w := hd 3 (by decide) (by kernel_rfl); unfold isV at d3; have d4 : isV _ (vs 4) w := hd 4 (by decide) (by kernel_rfl); unfold isV at d4; have d8 : isV _ (vs 8) w := hd 8 (by decide) (by kernel_rfl); unfold isV at d8; have d10 : isV _ (vs 10) w := hd 10 (by decide) (by kernel_rfl); unfold isV at d10; have d11 : isV _ (vs 11) w := hd 11 (by decide) (by kernel_rfl); unfold isV at d11; have d12 : isV _ (vs 12) w := hd 12 (by decide) (by kernel_rfl); unfold isV at d12; have d13 : isV _ (vs 13) w := hd 13 (by decide) (by kernel_rfl); unfold isV at d13; have d14 : isV _ (vs 14) w := hd 14 (by decide) (by kernel_rfl); unfold isV at d14; have d15 : isV _ (vs 15) w := hd 15 (by decide) (by kernel_rfl); unfold isV at d15; have d16 : isV _ (vs 16) w := hd 16 (by decide) (by kernel_rfl); unfold isV at d16; have d17 : isV _ (vs 17) w := hd 17 (by decide) (by kernel_rfl); unfold isV at d17; have d18 : isV _ (vs 18) w := hd 18 (by decide) (by kernel_rfl); unfold isV at d18; have d19 : isV _ (vs 19) w := hd 19 (by decide) (by kernel_rfl); unfold isV at d19; have d20 := hd 20 (by decide) (by kernel_rfl); simp only [TR, Nat.reduceAdd, Nat.reduceSub, List.getD_cons_zero, List.getD_cons_succ] at d20; have d22 : isV _ (vs 22) w := hd 22 (by decide) (by kernel_rfl); unfold isV at d22; clear hd; simp only [List.take, putL, Act.put, List.setIfInBounds_toArray, List.set_cons_zero, List.set_cons_succ]; unfold StepOK; go_simp; exact ⟨Below.refl _ _, isV_mk _ _⟩
  refine RunN.store (by decide) ((fun w => JCut W.heap.size base p D F g c es k e n w)) (fun _ _ _ hb hj => JCut_below hj hb) ?_ ?_
  · intro vs w hb hd hj; have d0 : isV _ (vs 0) w := hd 0 (by decide) (by kernel_rfl); unfold isV at d0; have d1 : isV _ (vs 1) w := hd 1 (by decide) (by kernel_rfl); unfold isV at d1; have d2 : isV _ (vs 2) w := hd 2 (by decide) (by kernel_rfl); unfold isV at d2; have d3 : isV _ (vs 3) w := hd 3 (by decide) (by kernel_rfl); unfold isV at d3; have d4 : isV _ (vs 4) w := hd 4 (by decide) (by kernel_rfl); unfold isV at d4; have d8 : isV _ (vs 8) w := hd 8 (by decide) (by kernel_rfl); unfold isV at d8; have d10 : isV _ (vs 10) w := hd 10 (by decide) (by kernel_rfl); unfold isV at d10; have d11 : isV _ (vs 11) w := hd 11 (by decide) (by kernel_rfl); unfold isV at d11; have d12 : isV _ (vs 12) w := hd 12 (by decide) (by kernel_rfl); unfold isV at d12; have d13 : isV _ (vs 13) w := hd 13 (by decide) (by kernel_rfl); unfold isV at d13; have d14 : isV _ (vs 14) w := hd 14 (by decide) (by kernel_rfl); unfold isV at d14; have d15 : isV _ (vs 15) w := hd 15 (by decide) (by kernel_rfl); unfold isV at d15; have d16 : isV _ (vs 16) w := hd 16 (by decide) (by kernel_rfl); unfold isV at d16; have d17 : isV _ (vs 17) w := hd 17 (by decide) (by kernel_rfl); unfold isV at d17; have d18 : isV _ (vs 18) w := hd 18 (by decide) (by kernel_rfl); unfold isV at d18; have d19 : isV _ (vs 19) w := hd 19 (by decide) (by kernel_rfl); unfold isV at d19; have d20 := hd 20 (by decide) (by kernel_rfl); simp only [TR, Nat.reduceAdd, Nat.reduceSub, List.getD_cons_zero, List.getD_cons_succ] at d20; have d23 : isV _ (vs 23) w := hd 23 (by decide) (by kernel_rfl); unfold isV at d23; clear hd; have hj2 := hj; (try simp only [prevE, lastV, List.mem_cons, List.not_mem_nil, or_false, Nat.reduceEqDiff, Nat.reduceAdd, if_true, if_false, reduceIte, or_true, true_or, or_self] at hj2); clear hj; obtain ⟨A', c', e20, o20⟩ := isCl_elim d20; obtain ⟨q0, q1, q2, q3⟩ := cut_first hj2.2 he hn o20 hb.size; simp only [List.take, putL, Act.put, List.setIfInBounds_toArray, List.set_cons_zero, List.set_cons_succ]; unfold StepE; go_simp; (try exact ⟨q2, q3⟩)
  apply RunN.pure (by decide)
  · intro vs w hb hd; have d0 : isV _ (vs 0) w := hd 0 (by decide) (by kernel_rfl); unfold isV at d0; have d1 : isV _ (vs 1) w := hd 1 (by decide) (by kernel_rfl); unfold isV at d1; have d2 : isV _ (vs 2) w := hd 2 (by decide) (by kernel_rfl); unfold isV at d2; have d3 : isV _ (vs 3) w := hd 3 (by decide) (by kernel_rfl); unfold isV at d3; have d4 : isV _ (vs 4) w := hd 4 (by decide) (by kernel_rfl); unfold isV at d4; have d5 : isV _ (vs 5) w := hd 5 (by decide) (by kernel_rfl); unfold isV at d5; have d6 : isV _ (vs 6) w := hd 6 (by decide) (by kernel_rfl); unfold isV at d6; have d7 : isV _ (vs 7) w := hd 7 (by decide) (by kernel_rfl); unfold isV at d7; have d8 : isV _ (vs 8) w := hd 8 (by decide) (by kernel_rfl); unfold isV at d8; have d9 : isV _ (vs 9) w := hd 9 (by decide) (by kernel_rfl); unfold isV at d9; have d10 : isV _ (vs 10) w := hd 10 (by decide) (by kernel_rfl); unfold isV at d10; have d11 : isV _ (vs 11) w := hd 11 (by decide) (by kernel_rfl); unfold isV at d11; have d12 : isV _ (vs 12) w := hd 12 (by decide) (by kernel_rfl); unfold isV at d12; have d13 : isV _ (vs 13) w := hd 13 (by decide) (by kernel_rfl); unfold isV at d13; have d14 : isV _ (vs 14) w := hd 14 (by decide) (by kernel_rfl); unfold isV at d14; have d15 : isV _ (vs 15) w := hd 15 (by decide) (by kernel_rfl); unfold isV at d15; have d16 : isV _ (vs 16) w := hd 16 (by decide) (by kernel_rfl); unfold isV at d16; have d17 : isV _ (vs 17) w := hd 17 (by decide) (by kernel_rfl); unfold isV at d17; have d18 : isV _ (vs 18) w := hd 18 (by decide) (by kernel_rfl); unfold isV at d18; have d19 : isV _ (vs 19) w := hd 19 (by decide) (by kernel_rfl); unfold isV at d19; have d20 := hd 20 (by decide) (by kernel_rfl); simp only [TR, Nat.reduceAdd, Nat.reduceSub, List.getD_cons_zero, List.getD_cons_succ] at d20; have d21 : isV _ (vs 21) w := hd 21 (by decide) (by kernel_rfl); unfold isV at d21; have d22 : isV _ (vs 22) w := hd 22 (by decide) (by kernel_rfl); unfold isV at d22; have d23 : isV _ (vs 23) w := hd 23 (by decide) (by kernel_rfl); unfold isV at d23; clear hd; simp only [List.take, putL, Act.put, List.setIfInBounds_toArray, List.set_cons_zero, List.set_cons_succ]; unfold StepOK; go_simp; exact ⟨Below.refl _ _, isV_mk _ _⟩
  apply RunN.pure (by decide)
  · intro vs w hb hd; have d0 : isV _ (vs 0) w := hd 0 (by decide) (by kernel_rfl); unfold isV at d0; have d1 : isV _ (vs 1) w := hd 1 (by decide) (by kernel_rfl); unfold isV at d1; have d2 : isV _ (vs 2) w := hd 2 (by decide) (by kernel_rfl); unfold isV at d2; have d3 : isV _ (vs 3) w := hd 3 (by decide) (by kernel_rfl); unfold isV at d3; have d4 : isV _ (vs 4) w := hd 4 (by decide) (by kernel_rfl); unfold isV at d4; have d5 : isV _ (vs 5) w := hd 5 (by decide) (by kernel_rfl); unfold isV at d5; have d6 : isV _ (vs 6) w := hd 6 (by decide) (by kernel_rfl); unfold isV at d6; have d7 : isV _ (vs 7) w := hd 7 (by decide) (by kernel_rfl); unfold isV at d7; have d8 : isV _ (vs 8) w := hd 8 (by decide) (by kernel_rfl); unfold isV at d8; have d9 : isV _ (vs 9) w := hd 9 (by decide) (by kernel_rfl); unfold isV at d9; have d10 : isV _ (vs 10) w := hd 10 (by decide) (by kernel_rfl); unfold isV at d10; have d11 : isV _ (vs 11) w := hd 11 (by decide) (by kernel_rfl); unfold isV at d11; have d12 : isV _ (vs 12) w := hd 12 (by decide) (by kernel_rfl); unfold isV at d12; have d13 : isV _ (vs 13) w := hd 13 (by decide) (by kernel_rfl); unfold isV at d13; have d14 : isV _ (vs 14) w := hd 14 (by decide) (by kernel_rfl); unfold isV at d14; have d15 : isV _ (vs 15) w := hd 15 (by decide) (by kernel_rfl); unfold isV at d15; have d16 : isV _ (vs 16) w := hd 16 (by decide) (by kernel_rfl); unfold isV at d16; have d17 : isV _ (vs 17) w := hd 17 (by decide) (by kernel_rfl); unfold isV at d17; have d18 : isV _ (vs 18) w := hd 18 (by decide) (by kernel_rfl); unfold isV at d18; have d19 : isV _ (vs 19) w := hd 19 (by decide) (by kernel_rfl); unfold isV at d19; have d20 := hd 20 (by decide) (by kernel_rfl); simp only [TR, Nat.reduceAdd, Nat.reduceSub, List.getD_cons_zero, List.getD_cons_succ] at d20; have d21 : isV _ (vs 21) w := hd 21 (by decide) (by kernel_rfl); unfold isV at d21; have d22 : isV _ (vs 22) w := hd 22 (by decide) (by kernel_rfl); unfold isV at d22; have d23 : isV _ (vs 23) w := hd 23 (by decide) (by kernel_rfl); unfold isV at d23; have d25 : isV _ (vs 25) w := hd 25 (by decide) (by kernel_rfl); unfold isV at d25; clear hd; simp only [List.take, putL, Act.put, List.setIfInBounds_toArray, List.set_cons_zero, List.set_cons_succ]; unfold StepOK; go_simp; exact ⟨Below.refl _ _, isV_mk _ _⟩
  refine RunN.store (by decide) ((fun w => ∃ F', DkIs w base p { D with fs := D.fs.set k ⟨e.f.nm, e.f.b.take n, n⟩ } F' ∧ ∀ q, F' q → F q ∨ W.heap.size ≤ q)) (fun _ _ _ hb ⟨F2, h1, h2⟩ => ⟨F2, h1.below hb, h2⟩) ?_ ?_
  · intro vs w hb hd hj; have d0 : isV _ (vs 0) w := hd 0 (by decide) (by kernel_rfl); unfold isV at d0; have d1 : isV _ (vs 1) w := hd 1 (by decide) (by kernel_rfl); unfold isV at d1; have d2 : isV _ (vs 2) w := hd 2 (by decide) (by kernel_rfl); unfold isV at d2; have d3 : isV _ (vs 3) w := hd 3 (by decide) (by kernel_rfl); unfold isV at d3; have d4 : isV _ (vs 4) w := hd 4 (by decide) (by kernel_rfl); unfold isV at d4; have d5 : isV _ (vs 5) w := hd 5 (by decide) (by kernel_rfl); unfold isV at d5; have d6 : isV _ (vs 6) w := hd 6 (by decide) (by kernel_rfl); unfold isV at d6; have d7 : isV _ (vs 7) w := hd 7 (by decide) (by kernel_rfl); unfold isV at d7; have d8 : isV _ (vs 8) w := hd 8 (by decide) (by kernel_rfl); unfold isV at d8; have d9 : isV _ (vs 9) w := hd 9 (by decide) (by kernel_rfl); unfold isV at d9; have d10 : isV _ (vs 10) w := hd 10 (by decide) (by kernel_rfl); unfold isV at d10; have d11 : isV _ (vs 11) w := hd 11 (by decide) (by kernel_rfl); unfold isV at d11; have d12 : isV _ (vs 12) w := hd 12 (by decide) (by kernel_rfl); unfold isV at d12; have d13 : isV _ (vs 13) w := hd 13 (by decide) (by kernel_rfl); unfold isV at d13; have d14 : isV _ (vs 14) w := hd 14 (by decide) (by kernel_rfl); unfold isV at d14; have d15 : isV _ (vs 15) w := hd 15 (by decide) (by kernel_rfl); unfold isV at d15; have d16 : isV _ (vs 16) w := hd 16 (by decide) (by kernel_rfl); unfold isV at d16; have d17 : isV _ (vs 17) w := hd 17 (by decide) (by kernel_rfl); unfold isV at d17; have d18 : isV _ (vs 18) w := hd 18 (by decide) (by kernel_rfl); unfold isV at d18; have d19 : isV _ (vs 19) w := hd 19 (by decide) (by kernel_rfl); unfold isV at d19; have d20 := hd 20 (by decide) (by kernel_rfl); simp only [TR, Nat.reduceAdd, Nat.reduceSub, List.getD_cons_zero, List.getD_cons_succ] at d20; have d21 : isV _ (vs 21) w := hd 21 (by decide) (by kernel_rfl); unfold isV at d21; have d22 : isV _ (vs 22) w := hd 22 (by decide) (by kernel_rfl); unfold isV at d22; have d23 : isV _ (vs 23) w := hd 23 (by decide) (by kernel_rfl); unfold isV at d23; have d26 : isV _ (vs 26) w := hd 26 (by decide) (by kernel_rfl); unfold isV at d26; clear hd; have hj2 := hj; (try simp only [prevE, lastV, List.mem_cons, List.not_mem_nil, or_false, Nat.reduceEqDiff, Nat.reduceAdd, if_true, if_false, reduceIte, or_true, true_or, or_self] at hj2); clear hj; obtain ⟨q0, q1, q2, q3⟩ := JCut_store hj2 he hn HFB.out; simp only [List.take, putL, Act.put, List.setIfInBounds_toArray, List.set_cons_zero, List.set_cons_succ]; unfold StepE; go_simp; (try exact ⟨q2, q3⟩)
  intro vs w1 hb hd hj
  try simp only [prevE, lastV, List.mem_cons, List.not_mem_nil, or_false, Nat.reduceEqDiff, Nat.reduceAdd, if_true, if_false, reduceIte, or_true, true_or, or_self] at hj
  have e0 : isV _ (vs 0) w1 := hd 0 (by decide)
  have e1 : isV _ (vs 1) w1 := hd 1 (by decide)
  have e2 : isV _ (vs 2) w1 := hd 2 (by decide)
  have e3 : isV _ (vs 3) w1 := hd 3 (by decide)
  have e4 : isV _ (vs 4) w1 := hd 4 (by decide)
  have e5 : isV _ (vs 5) w1 := hd 5 (by decide)
  have e6 : isV _ (vs 6) w1 := hd 6 (by decide)
  have e7 : isV _ (vs 7) w1 := hd 7 (by decide)
  have e8 : isV _ (vs 8) w1 := hd 8 (by decide)
  have e9 : isV _ (vs 9) w1 := hd 9 (by decide)
  have e10 : isV _ (vs 10) w1 := hd 10 (by decide)
  have e11 : isV _ (vs 11) w1 := hd 11 (by decide)
  have e12 : isV _ (vs 12) w1 := hd 12 (by decide)
  have e13 : isV _ (vs 13) w1 := hd 13 (by decide)
  have e14 : isV _ (vs 14) w1 := hd 14 (by decide)
  have e15 : isV _ (vs 15) w1 := hd 15 (by decide)
  have e16 : isV _ (vs 16) w1 := hd 16 (by decide)
  have e17 : isV _ (vs 17) w1 := hd 17 (by decide)
  have e18 : isV _ (vs 18) w1 := hd 18 (by decide)
  have e19 : isV _ (vs 19) w1 := hd 19 (by decide)
  have e20 := hd 20 (by decide); simp only [TR, Nat.reduceAdd, Nat.reduceSub, List.getD_cons_zero, List.getD_cons_succ] at e20
  have e21 : isV _ (vs 21) w1 := hd 21 (by decide)
  have e22 : isV _ (vs 22) w1 := hd 22 (by decide)
  have e23 : isV _ (vs 23) w1 := hd 23 (by decide)
  have e25 : isV _ (vs 25) w1 := hd 25 (by decide)
  have e26 : isV _ (vs 26) w1 := hd 26 (by decide)
  clear hd
  unfold isV at e0 e1 e2 e3 e4 e5 e6 e7 e8 e9 e10 e11 e12 e13 e14 e15 e16 e17 e18 e19 e21 e22 e23 e25 e26
  simp only [putL, Act.put, List.setIfInBounds_toArray, List.set_cons_zero, List.set_cons_succ, e0, e1, e2, e3, e4, e5, e6, e7, e8, e9, e10, e11, e12, e13, e14, e15, e16, e17, e18, e19, e21, e22, e23, e25, e26]
  clear e0 e1 e2 e3 e4 e5 e6 e7 e8 e9 e10 e11 e12 e13 e14 e15 e16 e17 e18 e19 e21 e22 e23 e25 e26
  --@end
  obtain ⟨F2, hj1, hj2⟩ := hj
  have Hj := Lib.hid hj1
  have Hb := Lib.hid (show Cg F F2 W w1 from (Cg.mono (F' := F) ⟨hb.os, hb.tape, hb.output, hb.size, fun q hq hf => hb.block q hq (fun e2 => hf (by unfold Gk at e2; rw [e2]; exact HFp.out)), fun q hq => .inl hq⟩ hj2))
  clear hj1 hj2 hb
  go_wp2_with fail
  go_end0
  exact ⟨rfl, F2, Hj.out, Hb.out⟩
end
end Go.Proofs.Ytemegkapmgcffaa
