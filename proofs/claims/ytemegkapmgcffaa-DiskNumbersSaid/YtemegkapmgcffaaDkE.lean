import Derived.Test.YtemegkapmgcffaaDkD
import Derived.StillTailTactics
/- The disk: Sync. -/
namespace Go.Proofs.Ytemegkapmgcffaa
open Go.RowKit
set_option linter.unusedSimpArgs false
set_option linter.unusedVariables false

theorem used_set : ∀ {fs : List Fl} {k : Nat} {f f' : Fl}, fs[k]? = some f → usedF (fs.set k f') + f.b.length = usedF fs + f'.b.length := by
  intro fs
  induction fs with
  | nil => intro k f f' h; simp at h
  | cons x r ih =>
    intro k f f' h
    cases k with
    | zero =>
      simp at h; subst h
      simp [usedF]; omega
    | succ k =>
      have := ih (k := k) (f := f) (f' := f') (by simpa using h)
      simp [usedF] at this ⊢
      omega
theorem srt_set {fs : List Fl} {k : Nat} {f f' : Fl} (hs : SrtF fs) (h : fs[k]? = some f) (hn : f'.nm = f.nm) : SrtF (fs.set k f') := by
  have hk := (List.getElem?_eq_some_iff.1 h).1
  have key : ∀ (i : Nat) (x : Fl), (fs.set k f')[i]? = some x → ∃ y, fs[i]? = some y ∧ y.nm = x.nm := by
    intro i x hx
    rw [List.getElem?_set] at hx
    split at hx
    · rename_i he
      subst he
      cases hx
      exact ⟨f, h, hn.symm⟩
    · exact ⟨x, hx, rfl⟩
  intro i j x y hij hx hy
  obtain ⟨x2, h1, h2⟩ := key i x hx
  obtain ⟨y2, h3, h4⟩ := key j y hy
  rw [← h2, ← h4]
  exact hs i j x2 y2 hij h1 h3
theorem Good.setF {D : Dk} {k : Nat} {f f' : Fl} (h : Good D) (hf : D.fs[k]? = some f) (hn : f'.nm = f.nm) (hb : f'.b.length ≤ f.b.length) (hs : f'.safe ≤ f'.b.length) : Good { D with fs := D.fs.set k f' } := by
  refine ⟨srt_set h.srt hf hn, h.room, h.fuse, by simpa using h.few, fun x hx => ?_, ?_, fun x hx => ?_⟩
  · rcases List.mem_or_eq_of_mem_set hx with h1 | rfl
    · exact h.safe x h1
    · exact hs
  · have := used_set (f' := f') hf
    have := h.used
    simp only
    omega
  · rcases List.mem_or_eq_of_mem_set hx with h1 | rfl
    · exact h.nms x h1
    · rw [hn]; exact h.nms f (List.mem_of_getElem? hf)
section
variable {w w' : World} {base p : Nat} {D : Dk} {F : Nat → Prop} {R : Option Addr} {c : Nat} {es : List FE}
/-- the row of files turns in place -/
theorem DI.rowed (h : DI w base p D F R c es) {g k : Nat} {e e' : FE} (hR : R = some ⟨g, 0, none⟩) (he : es[k]? = some e) (hg : w.grownBy w' (some g))
    (hrow : Own base 117 3 w' R es.length c (flatFE (es.set k e'))) (hgd : Good { D with fs := D.fs.set k e'.f })
    (hA : Sl w' 1 e'.A e'.f.b.length e'.c (bytesV e'.f.b) ∧ ∀ a, e'.A = some a → F a.block ∧ a.block ≠ p ∧ a.block ≠ g) :
    DI w' base p { D with fs := D.fs.set k e'.f } F R c (es.set k e') ∧ Cg F F w w' := by
  subst hR
  have hfg := h.fr _ rfl
  have hk : ∀ k, F k → k ≠ g → w'.heap[k]? = w.heap[k]? := fun k hf hne => hg.block k (h.bound k hf).2 (fun e => hne (Option.some.inj e))
  refine ⟨⟨?_, by rw [List.length_set]; exact hrow, fun x hx => ?_, ?_, hgd, h.fp, h.fr, fun k hf => ⟨(h.bound k hf).1, Nat.lt_of_lt_of_le (h.bound k hf).2 hg.size⟩⟩, Cg.grown hg hfg.1⟩
  · rw [List.length_set]
    exact own_same h.own (fun a ha => by cases ha; exact hk _ h.fp (fun e => hfg.2 e.symm))
  · rcases List.mem_or_eq_of_mem_set hx with h1 | rfl
    · have h2 := h.each x h1
      exact ⟨sl_same h2.1 (fun a ha => hk _ (h2.2 a ha).1 ((h2.2 a ha).2.2 _ rfl)), h2.2⟩
    · exact ⟨hA.1, fun a ha => ⟨(hA.2 a ha).1, (hA.2 a ha).2.1, fun r hr => by cases hr; exact (hA.2 a ha).2.2⟩⟩
  · rw [List.map_set, h.fs]
theorem flat_set {es : List FE} {k : Nat} {e e' : FE} (he : es[k]? = some e) (j : Nat) (v : Value) (hj : j < 3) (hv : feC e' = (feC e).set j v) : flatFE (es.set k e') = (flatFE es).set (k * 3 + j) v := by
  induction es generalizing k with
  | nil => simp at he
  | cons x r ih =>
    cases k with
    | zero =>
      simp at he; subst he
      simp only [List.set_cons_zero, flatFE, List.flatMap_cons, hv, Nat.zero_mul, Nat.zero_add]
      rw [List.set_append_left _ _ (by simp [feC]; omega)]
    | succ k =>
      have := ih (k := k) (by simpa using he)
      simp only [List.set_cons_succ, flatFE, List.flatMap_cons] at this ⊢
      rw [this, List.set_append_right _ _ (by simp [feC]; omega)]
      congr 2
      simp [feC]; omega
theorem rowAddr (h : DI w base p D F R c es) {k : Nat} {e : FE} (he : es[k]? = some e) : ∃ g, R = some ⟨g, 0, none⟩ := by
  have hk := (List.getElem?_eq_some_iff.1 he).1
  rcases h.row.2 with ⟨h1, h2⟩ | ⟨g, cap, cur, h1, _⟩
  · omega
  · simp only [Value.slice.injEq] at h1
    exact ⟨g, h1.1⟩
set_option maxRecDepth 100000 in
set_option maxHeartbeats 4000000 in
theorem sync1_any (h : DI w base p D F R c es) {box : Addr} (hbx : w.cell? box = some (.pointer (some ⟨p, 0, none⟩))) {k : Nat} {e : FE} (he : es[k]? = some e) :
    Calls Try.prog 90 #[.int .i64 (k : Int), .pointer (some box)] w fun x w' => x = .returned (.tuple #[]) ∧ DI w' base p { D with fs := D.fs.set k ⟨e.f.nm, e.f.b, e.f.b.length⟩ } F R c (es.set k ⟨⟨e.f.nm, e.f.b, e.f.b.length⟩, e.A, e.c⟩) ∧ Cg F F w w' := by
  obtain ⟨g, rfl⟩ := rowAddr h he
  obtain ⟨c0, c1, c2, c3, c4⟩ := h.cell
  obtain ⟨y0, y1, y2⟩ := slFE_three h.row.sl he
  have hk := (List.getElem?_eq_some_iff.1 he).1
  have hin : (0 : Int) ≤ (k : Int) ∧ (k : Int) < (es.length : Int) := by omega
  have hl200 := h.len
  have hk3 : k < 200 := by omega
  rw [add_plain] at y0 y1 y2
  simp only [] at y1 y2
  have hfz := World.ownsRow.frozenAt h.row (k * 3 + 2)
  have st := World.ownsRow.stored (w := w.drew) (h := h.row) (k * 3 + 2) (.int .i64 (e.f.b.length : Int))
  have hd := h.below (below_drewN (Below.refl _ _) 1)
  have hgd := h.good.setF (k := k) (f := e.f) (f' := ⟨e.f.nm, e.f.b, e.f.b.length⟩) (by rw [← h.fs, List.getElem?_map, he]; rfl) rfl (Nat.le_refl _) (Nat.le_refl _)
  have hea := (h.each e (List.mem_of_getElem? he)).2
  have hfin := hd.rowed (e' := ⟨⟨e.f.nm, e.f.b, e.f.b.length⟩, e.A, e.c⟩) rfl he st.2 (by rw [flat_set he 2 (.int .i64 (e.f.b.length : Int)) (by omega) rfl]; exact st.1) hgd ⟨sl_same (hd.each e (List.mem_of_getElem? he)).1 (fun a ha => st.2.block _ (hd.bound _ (hea a ha).1).2 (fun e2 => (hea a ha).2.2 _ rfl (Option.some.inj e2))), fun a ha => ⟨(hea a ha).1, (hea a ha).2.1, (hea a ha).2.2 _ rfl⟩⟩
  have Hfin := Lib.hid (And.intro hfin.1 ((Cg.below (F := F) (show Below w.heap.size w w.drew from (Below.refl _ _).drew)).trans hfin.2))
  clear hfin st hd hgd h hea c1 c2 c3 c4 y0
  go_enter Try.func90, Try.ntmps90
  go_still_tail 16, (by kernel_rfl)
  change wpList _ _ _ _ _ w.drew
  have hfz2 : w.drew.frozen? ⟨g, k * 3 + 2, none⟩ = false := hfz
  have hy2 : w.drew.cell? ⟨g, k * 3 + 2, none⟩ = some (.int .i64 (e.f.safe : Int)) := y2
  generalize w.drew = w2 at *
  go_wp2_with fail
  go_end0
  exact ⟨rfl, Hfin.out.1, Hfin.out.2⟩
end
end Go.Proofs.Ytemegkapmgcffaa
