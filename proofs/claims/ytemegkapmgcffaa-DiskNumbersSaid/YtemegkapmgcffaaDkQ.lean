import Derived.Test.YtemegkapmgcffaaDkP
/- The disk: List. -/
namespace Go.Proofs.Ytemegkapmgcffaa
open Go.RowKit
set_option linter.unusedSimpArgs false
set_option linter.unusedVariables false

theorem infoStrD : (Try.prog.info? 9).map (fun i => (i.zero, i.size, i.bytes)) = some (some (.string { data := #[] }), 1, 16) := by kernel_rfl
def nmV (fs : List Fl) : List Value := fs.map fun f => .string (bstr f.nm)
def halfN (fs : List Fl) (k : Nat) : List Value := (nmV fs).take k ++ List.replicate (fs.length - k) (.string { data := #[] })
theorem half_get {fs : List Fl} {k : Nat} (hk : k < fs.length) : (halfN fs k)[k]? = some (.string { data := #[] }) := by
  have hl : ((nmV fs).take k).length = k := by simp [nmV]; omega
  unfold halfN
  rw [List.getElem?_append_right (by omega), hl, Nat.sub_self, List.getElem?_replicate, if_pos (by omega)]
theorem half_set {fs : List Fl} {k : Nat} {f : Fl} (h : fs[k]? = some f) : (halfN fs k).set k (.string (bstr f.nm)) = halfN fs (k + 1) := by
  have hk := (List.getElem?_eq_some_iff.1 h).1
  obtain ⟨m, hm⟩ : ∃ m, fs.length - k = m + 1 := ⟨fs.length - k - 1, by omega⟩
  have hl : ((nmV fs).take k).length = k := by simp [nmV]; omega
  have hx : (nmV fs)[k]? = some (.string (bstr f.nm)) := by simp [nmV, h]
  unfold halfN
  rw [hm, List.set_append_right _ _ (by omega), hl, Nat.sub_self, List.replicate_succ, List.set_cons_zero, List.take_add_one, hx, show fs.length - (k + 1) = m by omega]
  simp
theorem half_all (fs : List Fl) : halfN fs fs.length = nmV fs := by
  unfold halfN
  rw [List.take_of_length_le (by simp [nmV]), Nat.sub_self]
  simp
section
variable {w : World} {base p : Nat} {D : Dk} {F : Nat → Prop}
set_option maxRecDepth 100000 in
set_option maxHeartbeats 4000000 in
theorem List_any (h : DkIs w base p D F) :
    Calls Try.prog 31 #[.pointer (some ⟨p, 0, none⟩)] w fun x w' => ∃ A c, x = .returned (.slice A D.fs.length c) ∧ Own w.heap.size 9 1 w' A D.fs.length c (nmV D.fs) ∧ Below w.heap.size w w' := by
  obtain ⟨R, c, es, h⟩ := h
  have H := Lib.hid h
  have hl200 := h.len
  have hfl : D.fs.length = es.length := by rw [← h.fs, List.length_map]
  obtain ⟨c0, c1, c2, c3, c4⟩ := h.cell
  obtain ⟨i0, hi, hz0, hz1, hz2⟩ := info_parts infoStrD
  have Hfl := Lib.hid hfl
  clear c1 c2 c3 c4 hfl
  go_enter Try.func31, Try.ntmps31
  go_wp2_with fail
  refine (made_any h).mono ?_; rintro e w1 ⟨rfl, rfl⟩
  clear h
  go_wp2_with (at_make; refine wpList_make_full _ rfl _ _ 47 rfl w.heap.size 9 i0 (.string { data := #[] }) 1 Try.underlying47 hi hz0 hz1 _ _ _ _ es.length rfl rfl rfl rfl (by rw [hz2]; omega) (by unfold maxLen; omega) (Nat.le_refl _) ?_; intro w1 hown1 hgrow1; have hb1 := grownBy_below hgrow1; have hx9 := cellB hb1 c0)
  obtain ⟨r, hr⟩ : ∃ r, r = w.heap.size := ⟨_, rfl⟩
  have Hr := Lib.hid hr
  have hown2 : Own r 9 1 w1 (some ⟨r, 0, none⟩) es.length es.length (halfN D.fs 0) := by
    have h5 := hown1
    rw [← hr] at h5
    have : halfN D.fs 0 = (madeCells (Value.string { data := #[] }).cells (es.length * 1)).toList := by
      unfold halfN
      rw [Hfl.out]
      simp [madeCells, Value.cells]
      apply List.ext_getElem (by simp)
      intro j _ _
      simp [Nat.mod_one]
    rw [this]
    exact h5
  clear hown1 hgrow1
  have Hown2 := Lib.hid hown2
  have Hb1 := Lib.hid hb1
  clear hown2 hb1
  subst hr
  go_loopw [20] (fun s20 wx => ∃ (k : Nat), k ≤ es.length ∧ s20 = .int .i64 (k : Int) ∧ Hid (Own w.heap.size 9 1 wx (some ⟨w.heap.size, 0, none⟩) es.length es.length (halfN D.fs k)) ∧ Hid (Below w.heap.size w wx)) (fun iv _ => es.length - (intOf iv).toNat)
  case atStart => exact ⟨0, by omega, rfl, Hown2, Hb1⟩
  case round =>
    obtain ⟨k, hk, rfl, HO, HB⟩ := hrel
    by_cases h1 : (k : Int) < (es.length : Int)
    · obtain ⟨t, ht⟩ := get_some es k (by omega)
      obtain ⟨g, rfl⟩ := rowAddr H.out ht
      have hdx := H.out.below HB.out
      obtain ⟨y0, y1, y2⟩ := slFE_three hdx.row.sl ht
      rw [add_plain] at y0 y1 y2
      simp only [] at y1 y2
      have hin : (0 : Int) ≤ (k : Int) ∧ (k : Int) < (es.length : Int) := by omega
      have hwk : IntKind.i64.wrap ((k : Int) + 1) = (k : Int) + 1 := by rw [IntKind.wrap_i64]; omega
      have ho := HO.out.below (below_alloc1 _ (.cells #[.string (bstr t.f.nm), .slice t.A t.f.b.length t.c, .int .i64 t.f.safe] 117))
      have st := World.ownsRow.stored ho k (.string (bstr t.f.nm))
      have x0 := World.ownsRow.cellAt ho k (by omega)
      rw [half_get (by rw [Hfl.out]; omega)] at x0
      have x1 := World.ownsRow.frozenAt ho k
      have hst1 := st.1
      rw [half_set (H.out.fsAt ht)] at hst1
      have HO2 := Lib.hid hst1
      have HB2 := Lib.hid ((HB.out.trans ((below_alloc1 _ (.cells #[.string (bstr t.f.nm), .slice t.A t.f.b.length t.c, .int .i64 t.f.safe] 117)).mono HB.out.size)).grown st.2 (Nat.le_trans HB.out.size (below_alloc1 _ _).size) (fun q hq => by cases hq; exact Nat.le_refl _))
      clear hdx ht ho st hst1
      go_wp2_with fail
      go_roundw
      case rel => exact ⟨k + 1, by omega, by congr 1, HO2, HB2⟩
      case measure => simp [intOf]; omega
    · obtain rfl : k = es.length := by omega
      go_wp2_with fail
      go_ret
      have h5 := HO.out
      have h6 := half_all D.fs
      rw [Hfl.out] at h6
      rw [h6] at h5
      rw [Hfl.out]
      exact ⟨_, _, rfl, h5, HB.out⟩
end
end Go.Proofs.Ytemegkapmgcffaa
