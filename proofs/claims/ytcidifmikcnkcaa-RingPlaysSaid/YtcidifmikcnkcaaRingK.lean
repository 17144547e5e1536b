import Derived.Test.YtcidifmikcnkcaaRingJ
/- Rings: Drop. -/
namespace Go.Proofs.Ytcidifmikcnkcaa
open Go.RowKit Go.Maps Go.WideShapes Go.WideMaps
set_option linter.unusedSimpArgs false
set_option linter.unusedVariables false

def posI (l : List Int) (x : Int) : Option Nat := l.findIdx? (fun y => decide (y = x))
theorem getD_at (l : List Int) {k : Nat} (h : k < l.length) : l.getD k 0 = l[k] := by rw [List.getD_eq_getElem?_getD, List.getElem?_eq_getElem h]; rfl
theorem idx_pos (l : List Int) (x : Int) : Lib.idxOf l x = match posI l x with | some k => (k : Int) | none => -1 := by
  cases h : posI l x with
  | none =>
    unfold posI at h
    rw [List.findIdx?_eq_none_iff] at h
    have := Lib.idxOf_miss l l.length x (fun j hj e => by
      rw [getD_at _ hj] at e
      have := h _ (List.getElem_mem hj)
      simp [e] at this)
    rwa [List.take_length] at this
  | some k =>
    unfold posI at h
    rw [List.findIdx?_eq_some_iff_getElem] at h
    obtain ⟨hk, h1, h2⟩ := h
    have := Lib.idxOf_hit l l.length k x hk (Nat.le_refl _) (by rw [getD_at _ hk]; simpa using h1) (fun j hj e => by
      rw [getD_at _ (by omega)] at e
      have := h2 j hj
      simp [e] at this)
    rwa [List.take_length] at this
theorem posI_lt {l : List Int} {x : Int} {k : Nat} (h : posI l x = some k) : k < l.length := by
  unfold posI at h
  rw [List.findIdx?_eq_some_iff_getElem] at h
  exact h.1
theorem index_any {base n c : Nat} {A : Option Addr} {l : List Int} {w : World} (h : Own base 3 1 w A n c (intsL l)) (hn : n ≤ 200000) (x : Int) :
    Calls Try.prog 49 #[.slice A n c, .int .i64 x] w fun e w' => e = .returned (.int .i64 (match posI l x with | some k => (k : Int) | none => -1)) ∧ w' = w := by
  have hl := slI_len h.sl
  by_cases h0 : n = 0
  · subst h0
    have : l = [] := List.eq_nil_of_length_eq_zero hl
    subst this
    exact (Try.slices_Index_int_empty A c x w).mono fun e w' ⟨h1, h2⟩ => ⟨by rw [h1, idx_pos], h2⟩
  · obtain ⟨g, rfl, _, _⟩ := own_addr h (by omega)
    refine (Try.slices_Index_int g 0 n c l x w (by omega) (by omega) (fun j hj => ?_)).mono fun e w' ⟨h1, h2⟩ => ⟨?_, h2⟩
    · rw [Nat.zero_add, getD_at _ hj]
      exact own_cell h (List.getElem?_eq_getElem hj)
    · rw [h1, ← hl, List.take_length, idx_pos]
def dropR (qs : List (Nm × Qu)) (most : Int) (nm : Nm) (x : Int) : Bool × List (Nm × Qu) :=
  match posI (getQ qs most nm).l x with
  | some k => (true, keepQ qs most nm ⟨(getQ qs most nm).most, (getQ qs most nm).l.eraseIdx k⟩)
  | none => (false, qs)
set_option maxRecDepth 100000 in
set_option maxHeartbeats 4000000 in
theorem Drop_lab {W : World} {base p : Nat} {most : Int} {qs : List (Nm × Qu)} {lab : Nat → Option Lab} (h : RIl W base p most qs lab) (nm : Nm) (hn : nm.length ≤ maxLen) (x : Int) (hl : qs.length ≤ 100000) :
    Calls Try.prog 25 #[.pointer (some ⟨p, 0, none⟩), .string (bstr nm), .int .i64 x] W fun e w' => e = .returned (.bool (dropR qs most nm x).1) ∧ (∃ lab', RIl w' base p most (dropR qs most nm x).2 lab' ∧ Chg lab lab' W w') ∧ Below base W w' := by
  have hlt := h.lt
  have hbs : base ≤ W.heap.size := by omega
  have HR := Lib.hid h
  obtain ⟨mb, D, h⟩ := h
  go_enter Try.func25, Try.ntmps25
  go_wp2_with fail
  refine (of_any h nm hn).mono ?_; rintro e w2 ⟨b, lab2, A, n, c, f, L, rfl, h2, q2, hb, hA, hbel, hc2⟩
  have hC2 := Lib.hid hc2
  have hB2 := Lib.hid (Chg.below (lab := lab) hbel)
  clear hc2
  have hR2 := HR.out.below hbel
  have hlen := q2.len
  clear h HR
  go_wp2_with fail
  refine (All_any hR2.is nm hn).mono ?_; rintro e w3 ⟨A3, c3, rfl, o3, hb3⟩
  have hR3 := hR2.below hb3
  have h3 := h2.below hb3
  have q3 := q2.below hb3
  have hC3 := Lib.hid (hC2.out.trans (Chg.below hb3))
  have hB3 := Lib.hid (hB2.out.trans (Chg.below hb3))
  have hbel3 := (hbel.trans (hb3.mono hbel.size)).mono hbs
  clear hR2 h2 q2 hbel hb3 hC2 hB2
  go_wp2_with fail
  refine (index_any o3 (by omega) x).mono ?_; rintro e w4 ⟨rfl, rfl⟩
  clear o3
  cases hp : posI (getQ qs most nm).l x with
  | none =>
    have HP := Lib.hid (show dropR qs most nm x = (false, qs) by unfold dropR; rw [hp])
    clear hp
    go_wp2_with fail
    go_ret
    rw [HP.out]
    exact ⟨rfl, ⟨lab, hR3, hB3.out⟩, hbel3⟩
  | some k =>
    have HP := Lib.hid (show dropR qs most nm x = (true, keepQ qs most nm ⟨(getQ qs most nm).most, (getQ qs most nm).l.eraseIdx k⟩) by unfold dropR; rw [hp])
    have hk := posI_lt hp
    have hnb := hR3.is.named (nm := nm) (fun e => by rw [e] at hk; simp at hk)
    have Hk := Lib.hid hk
    clear hp hR3 hk
    go_wp2_with fail
    refine (qcut_any q3 k Hk.out).mono ?_; rintro e w5 ⟨rfl, f5, L5, q5, hs5⟩
    obtain ⟨lab5, h5, hb5, hA5, hc5⟩ := h3.stepQ hs5 hb hA q5 (.inl rfl)
    have hC5 := Lib.hid (hC3.out.trans hc5)
    clear hc5
    have hbel5 := hbel3.trans ⟨hs5.os, hs5.tape, hs5.output, hs5.size, fun j hj => hs5.block j (by have := hbel3.size; omega) (by have := q3.blt; omega) (fun a ha => by have := (World.ownsRow.lt q3.row a.block (by simp [Value.ownBlock, ha])).1; omega)⟩
    clear hs5 h3 q3 hbel3
    go_wp2_with fail
    refine (keep_any h5 q5 hb5 hA5 hnb hl).mono ?_; rintro e w6 ⟨rfl, D6, h6, hbel6, hc6⟩
    go_wp2_with fail
    go_ret
    rw [HP.out]
    exact ⟨rfl, ⟨lab5, ⟨mb, D6, h6⟩, hC5.out.trans hc6⟩, hbel5.trans hbel6⟩
theorem Drop_any {W : World} {base p : Nat} {most : Int} {qs : List (Nm × Qu)} (h : RIs W base p most qs) (nm : Nm) (hn : nm.length ≤ maxLen) (x : Int) (hl : qs.length ≤ 100000) :
    Calls Try.prog 25 #[.pointer (some ⟨p, 0, none⟩), .string (bstr nm), .int .i64 x] W fun e w' => e = .returned (.bool (dropR qs most nm x).1) ∧ RIs w' base p most ((dropR qs most nm x).2) ∧ Below base W w' := by
  obtain ⟨lab, h⟩ := h.lab
  exact (Drop_lab h nm hn x hl).mono fun e w' ⟨h1, h2, h3⟩ => ⟨h1, by obtain ⟨lab', h2, _⟩ := h2; exact h2.is, h3⟩
end Go.Proofs.Ytcidifmikcnkcaa
