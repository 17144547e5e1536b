import Derived.Test.YtcidifmikcnkcaaRingD
/- Rings: right, of, may, keep. -/
namespace Go.Proofs.Ytcidifmikcnkcaa
open Go.RowKit Go.Maps Go.WideShapes Go.WideMaps
set_option linter.unusedSimpArgs false
set_option linter.unusedVariables false

theorem str_size (l : Nm) : (bstr l).size = l.length := rfl
set_option maxHeartbeats 400000 in
theorem right_any (s : Nm) (w : World) : Calls Try.prog 41 #[.string (bstr s)] w fun e w' => e = .returned (.bool (namedB s)) ∧ w = w' := by
  have hsz : (bstr s).size = s.length := rfl
  have he : (bstr s = { data := #[] }) = (s = []) := by rw [← bstr_inj]; rfl
  unfold namedB
  go_enter Try.func41, Try.ntmps41
  by_cases h : s = []
  · subst h
    go_wp2_with fail
    all_goals
      go_ret
      exact ⟨ret_bool (by simp), rfl⟩
  · have hl : 1 ≤ s.length := by cases s with | nil => exact absurd rfl h | cons a r => simp
    go_wp2_with fail
    all_goals
      go_ret
      refine ⟨ret_bool ?_, rfl⟩
      have hie : s.isEmpty = false := by simp [h]
      first | (simp [hie, hl]; done) | (simp [hie, hl]; omega)

def getQ (qs : List (Nm × Qu)) (most : Int) (nm : Nm) : Qu := (lk qs nm).getD ⟨if namedB nm then most else 0, []⟩
theorem zeroP (w : World) : (zeroValue 84).run Try.prog w = .ok (.pointer none) w := by kernel_rfl
theorem ptr_zero : ptrElem (.pointer none) = some (.lit (.int .i64 (-1)), []) := rfl
section
variable {W : World} {base p mb : Nat} {most : Int} {qs : List (Nm × Qu)} {D : DataW Unit} {lab : Nat → Option Lab} {P : Nm → Prop}
theorem RH.look_some (h : RH W base p mb most qs D lab P) {nm : Nm} (hn : nm.length ≤ maxLen) {b : Nat} (hat : ∀ z, D.atKey (.string nm) z = .lit (.int .i64 (b : Int))) :
    (Instr.lookup 58 (.map (some mb)) (.string (bstr nm)) false).run Try.prog W = .ok (.pointer (some ⟨b, 0, none⟩)) W := by
  obtain ⟨v, ps, hrun, hv⟩ := h.map.lookup lawR Try.underlying58 (zeroP W) ptr_zero (keyR nm hn)
  rw [hat] at hv
  rw [hrun, ptrElem_inv hv]
theorem RH.look_none (h : RH W base p mb most qs D lab P) {nm : Nm} (hn : nm.length ≤ maxLen) (hno : lk qs nm = none) :
    (Instr.lookup 58 (.map (some mb)) (.string (bstr nm)) false).run Try.prog W = .ok (.pointer none) W := by
  obtain ⟨v, ps, hrun, hv⟩ := h.map.lookup lawR Try.underlying58 (zeroP W) ptr_zero (keyR nm hn)
  rw [atKey_of_not_has (by rw [h.keys, hno]; rfl)] at hv
  rw [hrun, ptrElem_nil hv]

set_option maxRecDepth 100000 in
set_option maxHeartbeats 4000000 in
/-- the queue of a name -/
theorem of_any (h : RH W base p mb most qs D lab (fun _ => True)) (nm : Nm) (hn : nm.length ≤ maxLen) :
    Calls Try.prog 40 #[.pointer (some ⟨p, 0, none⟩), .string (bstr nm)] W fun e w' => ∃ (b : Nat) (lab' : Nat → Option Lab) (A : Option Addr) (n c f : Nat) (L : List Int), e = .returned (.pointer (some ⟨b, 0, none⟩)) ∧
      RH w' base p mb most qs D lab' (· ≠ nm) ∧ QIs w' base b (getQ qs most nm) A n c f L ∧ lab' b = some (.que nm) ∧ (∀ a, A = some a → lab' a.block = some (.row nm)) ∧ Below W.heap.size W w' ∧ Chg lab lab' W w' := by
  obtain ⟨c0, c1⟩ := h.cell
  have hlt := h.lt
  cases hl : lk qs nm with
  | some q =>
    obtain ⟨b, A, n, c, f, L, hat, hq, hb, hA⟩ := h.each nm q trivial hl
    have hlook := h.look_some hn hat
    have hg : getQ qs most nm = q := by simp [getQ, hl]
    have HF := Lib.hid (show RH W base p mb most qs D lab (· ≠ nm) ∧ QIs W base b (getQ qs most nm) A n c f L ∧ lab b = some (.que nm) ∧ (∀ a, A = some a → lab a.block = some (.row nm)) from ⟨h.weak (fun _ _ => trivial), by rw [hg]; exact hq, hb, hA⟩)
    clear hg hat hq hA hb hl h
    go_enter Try.func40, Try.ntmps40
    go_wp2_with fail
    go_ret
    exact ⟨b, lab, A, n, c, f, L, rfl, HF.out.1, HF.out.2.1, HF.out.2.2.1, HF.out.2.2.2, Below.refl _ _, Chg.below (Below.refl _ _)⟩
  | none =>
    have hlook := h.look_none hn hl
    have hg : getQ qs most nm = ⟨if namedB nm then most else 0, []⟩ := by simp [getQ, hl]
    have Hg := Lib.hid hg
    have H := Lib.hid h
    have fin : ∀ m, 0 ≤ m ∧ m ≤ 65536 → (getQ qs most nm) = ⟨m, []⟩ → ∃ (lab' : Nat → Option Lab) (A : Option Addr) (n c f : Nat) (L : List Int), RH (W.alloc (.cells #[.int .i64 m, .slice none 0 0, .int .i64 0, .int .i64 0] 88)) base p mb most qs D lab' (· ≠ nm) ∧ QIs (W.alloc (.cells #[.int .i64 m, .slice none 0 0, .int .i64 0, .int .i64 0] 88)) base W.heap.size (getQ qs most nm) A n c f L ∧ lab' W.heap.size = some (.que nm) ∧ (∀ a, A = some a → lab' a.block = some (.row nm)) ∧ (∀ k, (lab' k).isSome = true → (lab k).isSome = true ∨ W.heap.size ≤ k) := by
      intro m hm he
      have bn := below_alloc1 W (.cells #[.int .i64 m, .slice none 0 0, .int .i64 0, .int .i64 0] 88)
      refine ⟨_, none, 0, 0, 0, [], ((H.out.weak (fun _ _ => trivial)).below bn).label H.out.labN (Nat.le_refl _) (by simp) (.que nm), ?_, by simp, by simp, fun k hk => by
        by_cases e : k = W.heap.size
        · exact .inr (by omega)
        · exact .inl (by simpa [e] using hk)⟩
      rw [he]
      exact ⟨Own.lower (new_own W [.int .i64 m, .slice none 0 0, .int .i64 0, .int .i64 0] 88 4 rfl (by unfold maxLen; omega)) (by omega), World.ownsRow_nil _ _ _ _, by simp, hm, by simp, .inr ⟨rfl, rfl⟩, by simp⟩
    have Hfin := Lib.hid fin
    clear hg h fin hl
    have hbd := H.out.bound
    cases hnm : namedB nm with
    | true =>
      go_enter Try.func40, Try.ntmps40
      go_wp2_with fail
      refine (right_any nm _).mono ?_; rintro e w2 ⟨rfl, rfl⟩
      rw [hnm]
      go_wp2_with fail
      go_ret
      obtain ⟨lab', A, n, c, f, L, r⟩ := Hfin.out most (by omega) (by rw [Hg.out, hnm]; rfl)
      exact ⟨_, lab', A, n, c, f, L, rfl, r.1, r.2.1, r.2.2.1, r.2.2.2.1, below_alloc1 _ _, { Chg.below (lab := lab) (below_alloc1 W _) with new := r.2.2.2.2 }⟩
    | false =>
      go_enter Try.func40, Try.ntmps40
      go_wp2_with fail
      refine (right_any nm _).mono ?_; rintro e w2 ⟨rfl, rfl⟩
      rw [hnm]
      go_wp2_with fail
      go_ret
      obtain ⟨lab', A, n, c, f, L, r⟩ := Hfin.out 0 (by omega) (by rw [Hg.out, hnm]; rfl)
      exact ⟨_, lab', A, n, c, f, L, rfl, r.1, r.2.1, r.2.2.1, r.2.2.2.1, below_alloc1 _ _, { Chg.below (lab := lab) (below_alloc1 W _) with new := r.2.2.2.2 }⟩
end
end Go.Proofs.Ytcidifmikcnkcaa
