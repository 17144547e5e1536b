import Derived.Test.YtemegkapmgcffaaDkO
/- The disk: Used. -/
namespace Go.Proofs.Ytemegkapmgcffaa
open Go.RowKit
set_option linter.unusedSimpArgs false
set_option linter.unusedVariables false

theorem used_take {fs : List Fl} {k : Nat} {f : Fl} (h : fs[k]? = some f) : usedF (fs.take (k + 1)) = usedF (fs.take k) + f.b.length := by
  have hk := (List.getElem?_eq_some_iff.1 h).1
  rw [List.take_add_one, h]
  unfold usedF
  simp
theorem used_take_le (fs : List Fl) (k : Nat) : usedF (fs.take k) ≤ usedF fs := by
  have h : usedF fs = usedF (fs.take k) + usedF (fs.drop k) := by
    unfold usedF
    rw [← List.sum_append, ← List.map_append, List.take_append_drop]
  omega
section
variable {w : World} {base p : Nat} {D : Dk} {F : Nat → Prop}
set_option maxRecDepth 100000 in
set_option maxHeartbeats 4000000 in
theorem Used_any (h : DkIs w base p D F) :
    Calls Try.prog 30 #[.pointer (some ⟨p, 0, none⟩)] w fun x w' => x = .returned (.int .i64 (usedF D.fs : Int)) ∧ Below w.heap.size w w' := by
  obtain ⟨R, c, es, h⟩ := h
  have H := Lib.hid h
  have hl200 := h.len
  obtain ⟨c0, c1, c2, c3, c4⟩ := h.cell
  have hus : ∀ k, usedF (D.fs.take k) ≤ 16777216 := fun k => by have := used_take_le D.fs k; have := h.good.used; have := h.good.room; omega
  have Hus := Lib.hid hus
  clear hus c1 c2 c3 c4
  go_enter Try.func30, Try.ntmps30
  go_wp2_with fail
  refine (made_any h).mono ?_; rintro e w1 ⟨rfl, rfl⟩
  clear h
  go_wp2_with fail
  go_loopw [3, 13] (fun s3 s13 wx => ∃ (k : Nat), k ≤ es.length ∧ s3 = .int .i64 (usedF (D.fs.take k) : Int) ∧ s13 = .int .i64 (k : Int) ∧ Hid (Below w.heap.size w wx)) (fun _ iv _ => es.length - (intOf iv).toNat)
  case atStart => exact ⟨0, by omega, rfl, rfl, Lib.hid (Below.refl _ _)⟩
  case round =>
    obtain ⟨k, hk, rfl, rfl, HB⟩ := hrel
    by_cases h1 : (k : Int) < (es.length : Int)
    · obtain ⟨t, ht⟩ := get_some es k (by omega)
      obtain ⟨g, rfl⟩ := rowAddr H.out ht
      have hdx := H.out.below HB.out
      obtain ⟨y0, y1, y2⟩ := slFE_three hdx.row.sl ht
      rw [add_plain] at y0 y1 y2
      simp only [] at y1 y2
      have hin : (0 : Int) ≤ (k : Int) ∧ (k : Int) < (es.length : Int) := by omega
      have hu1 := used_take (H.out.fsAt ht)
      have hu2 := Hus.out (k + 1)
      obtain ⟨u, hu⟩ : ∃ u, u = usedF (D.fs.take k) := ⟨_, rfl⟩
      rw [← hu] at hu1
      rw [← hu]
      have hwr : IntKind.i64.wrap ((u : Int) + (t.f.b.length : Int)) = (u : Int) + (t.f.b.length : Int) := by rw [IntKind.wrap_i64]; omega
      have hwk : IntKind.i64.wrap ((k : Int) + 1) = (k : Int) + 1 := by rw [IntKind.wrap_i64]; omega
      have HU := Lib.hid hu1
      have hba := Lib.hid (HB.out.trans ((below_alloc1 _ (.cells #[.string (bstr t.f.nm), .slice t.A t.f.b.length t.c, .int .i64 t.f.safe] 117)).mono HB.out.size))
      clear hdx ht hu1 hu2 hu
      go_wp2_with fail
      go_roundw
      case rel => exact ⟨k + 1, by omega, by rw [HU.out]; congr 1, by congr 1, hba⟩
      case measure => simp [intOf]; omega
    · obtain rfl : k = es.length := by omega
      have hfl : D.fs.take es.length = D.fs := by
        have : es.length = D.fs.length := by rw [← H.out.fs, List.length_map]
        rw [this, List.take_length]
      have HFL := Lib.hid hfl
      clear hfl
      go_wp2_with fail
      go_ret
      exact ⟨by rw [HFL.out]; rfl, HB.out⟩
end
end Go.Proofs.Ytemegkapmgcffaa
