import Derived.Test.YtcidifmikcnkcaaRingI
/- Rings: Room, Cap. -/
namespace Go.Proofs.Ytcidifmikcnkcaa
open Go.RowKit Go.Maps Go.WideShapes Go.WideMaps
set_option linter.unusedSimpArgs false
set_option linter.unusedVariables false

set_option maxRecDepth 100000 in
set_option maxHeartbeats 2000000 in
theorem Room_any {W : World} {base p : Nat} {most : Int} {qs : List (Nm × Qu)} (h : RIs W base p most qs) (nm : Nm) (hn : nm.length ≤ maxLen) :
    Calls Try.prog 14 #[.pointer (some ⟨p, 0, none⟩), .string (bstr nm)] W fun e w' => e = .returned (.int .i64 (max ((getQ qs most nm).most - (getQ qs most nm).l.length) 0)) ∧ Below W.heap.size W w' := by
  obtain ⟨mb, D, lab, h⟩ := h
  go_enter Try.func14, Try.ntmps14
  go_wp2_with fail
  refine (of_any h nm hn).mono ?_; rintro e w2 ⟨b, lab2, A, n, c, f, L, rfl, h2, q2, hb, hA, hbel, _⟩
  obtain ⟨q, hq⟩ : ∃ q, getQ qs most nm = q := ⟨_, rfl⟩
  rw [hq] at q2
  have Hq := Lib.hid hq
  clear hq
  obtain ⟨d0, d1, d2, d3⟩ := q2.cell
  have hlen := q2.len
  have hmq := q2.most
  obtain ⟨ln, hln⟩ : ∃ ln, ln = (q.l.length : Int) := ⟨_, rfl⟩
  have hw : IntKind.i64.wrap (q.most - ln) = q.most - ln := by rw [IntKind.wrap_i64]; omega
  have hb2 : 0 ≤ ln ∧ ln ≤ 65536 := by omega
  rw [← hln] at d3
  have Hln := Lib.hid hln
  clear hln q2 h2 h hlen
  go_upto_region 2 with fail
  go_quiet (fail)
  go_wp2_with fail
  go_ret
  rw [Hq.out, ← Hln.out]
  exact ⟨rfl, below_drewN hbel _⟩

set_option maxRecDepth 100000 in
set_option maxHeartbeats 4000000 in
theorem Cap_lab {W : World} {base p : Nat} {most : Int} {qs : List (Nm × Qu)} {lab : Nat → Option Lab} (h : RIl W base p most qs lab) (nm : Nm) (hn : nm.length ≤ maxLen) (x : Int) (hl : qs.length ≤ 100000) :
    Calls Try.prog 13 #[.pointer (some ⟨p, 0, none⟩), .string (bstr nm), .int .i64 x] W fun e w' => e = .returned (.int .i64 (capR qs most nm x).1) ∧ (∃ lab', RIl w' base p most (capR qs most nm x).2 lab' ∧ Chg lab lab' W w') ∧ Below base W w' := by
  have hlt := h.lt
  obtain ⟨mb, D, h⟩ := h
  obtain ⟨c0, c1⟩ := h.cell
  have H := Lib.hid h
  have hbs : base ≤ W.heap.size := by omega
  have hnil := fun w (r : Option Nat) => run_eql_map_nil (P := Try.prog) w 58 _ _ r Try.underlying58
  go_enter Try.func13, Try.ntmps13
  go_wp2_with fail
  refine (right_any nm _).mono ?_; rintro e w22 ⟨rfl, rfl⟩
  by_cases hok : namedB nm = true ∧ 1 ≤ x ∧ x ≤ 65536
  · obtain ⟨hnm, hx⟩ := hok
    have hnb : 1 ≤ nm.length ∧ nm.length ≤ 40 := by unfold namedB at hnm; simp at hnm; exact hnm
    rw [hnm]
    go_wp2_with fail
    refine (may_any h nm hn).mono ?_; rintro e w4 ⟨rfl, rfl⟩
    obtain ⟨z, hz⟩ : ∃ z, ((lk qs nm).isSome || decide (qs.length < 1000)) = z := ⟨_, rfl⟩
    rw [hz]
    by_cases hfull : z = false ∧ x ≠ most
    · have HP := Lib.hid (show capR qs most nm x = (5, qs) by unfold capR; rw [if_pos ⟨hnm, hx⟩, hz, if_pos hfull])
      obtain ⟨rfl, hne⟩ := hfull
      clear hz
      go_wp2_with fail
      go_ret
      rw [HP.out]
      exact ⟨rfl, ⟨lab, ⟨mb, D, H.out⟩, Chg.below (Below.refl _ _)⟩, Below.refl _ _⟩
    · have HP := Lib.hid (show capR qs most nm x = (0, keepQ qs most nm ⟨x, (getQ qs most nm).l⟩) by unfold capR; rw [if_pos ⟨hnm, hx⟩, hz, if_neg hfull])
      have hfin : ∀ (w2 : World) (b : Nat) (lab2 : Nat → Option Lab) (A : Option Addr) (n c f : Nat) (L : List Int), RH w2 base p mb most qs D lab2 (· ≠ nm) → QIs w2 base b (getQ qs most nm) A n c f L → lab2 b = some (.que nm) → (∀ a, A = some a → lab2 a.block = some (.row nm)) →
          w2.cell? ⟨b, 0, none⟩ = some (.int .i64 (getQ qs most nm).most) ∧ w2.frozen? ⟨b, 0, none⟩ = false ∧ RH (w2.setCell ⟨b, 0, none⟩ (.int .i64 x)) base p mb most qs D lab2 (· ≠ nm) ∧ QIs (w2.setCell ⟨b, 0, none⟩ (.int .i64 x)) base b ⟨x, (getQ qs most nm).l⟩ A n c f L ∧ Below base w2 (w2.setCell ⟨b, 0, none⟩ (.int .i64 x)) ∧ Chg lab2 lab2 w2 (w2.setCell ⟨b, 0, none⟩ (.int .i64 x)) := by
        intro w2 b lab2 A n c f L h2 q2 hb hA
        have st := World.ownsRow.stored q2.own 0 (.int .i64 x)
        refine ⟨q2.cell.1, World.ownsRow.frozenAt q2.own 0, h2.step (QStep.own st.2) hb hA, ⟨?_, ?_, q2.ne, by simp only; omega, q2.len, q2.from_, q2.ring⟩, (Below.refl base w2).grown st.2 (by have := q2.blt; omega) (fun k hk => by cases hk; exact q2.blt.1), Chg.grown st.2 (by rw [hb]; rfl)⟩
        · exact st.1
        · refine World.ownsRow.kept q2.row st.2 ?_
          cases A with
          | none => exact .inl rfl
          | some a => exact .inr (by simpa [Value.ownBlock] using q2.ne a rfl)
      have Hfin := Lib.hid hfin
      clear hfin
      have go : ∀ (w2 : World), True := fun _ => trivial
      cases z with
      | true =>
        clear hz hfull
        go_wp2_with fail
        refine (of_any h nm hn).mono ?_; rintro e w2 ⟨b, lab2, A, n, c, f, L, rfl, h2, q2, hb, hA, hbel, hc2⟩
        have hC2 := Lib.hid hc2
        clear hc2
        obtain ⟨d0, y0, h3, q3, hb3, hc3⟩ := Hfin.out _ _ _ _ _ _ _ _ h2 q2 hb hA
        have hC3 := Lib.hid (hC2.out.trans hc3)
        clear hc3
        clear h2 q2 h
        go_wp2_with fail
        refine (keep_any h3 q3 hb hA hnb hl).mono ?_; rintro e w6 ⟨rfl, D6, h6, hbel6, hc6⟩
        go_wp2_with fail
        go_ret
        rw [HP.out]
        exact ⟨rfl, ⟨lab2, ⟨mb, D6, h6⟩, hC3.out.trans hc6⟩, ((hbel.mono hbs).trans hb3).trans hbel6⟩
      | false =>
        have hxm : x = most := Classical.byContradiction (fun e => hfull ⟨rfl, e⟩)
        clear hz hfull
        subst hxm
        go_wp2_with fail
        refine (of_any h nm hn).mono ?_; rintro e w2 ⟨b, lab2, A, n, c, f, L, rfl, h2, q2, hb, hA, hbel, hc2⟩
        have hC2 := Lib.hid hc2
        clear hc2
        obtain ⟨d0, y0, h3, q3, hb3, hc3⟩ := Hfin.out _ _ _ _ _ _ _ _ h2 q2 hb hA
        have hC3 := Lib.hid (hC2.out.trans hc3)
        clear hc3
        clear h2 q2 h
        go_wp2_with fail
        refine (keep_any h3 q3 hb hA hnb hl).mono ?_; rintro e w6 ⟨rfl, D6, h6, hbel6, hc6⟩
        go_wp2_with fail
        go_ret
        rw [HP.out]
        exact ⟨rfl, ⟨lab2, ⟨mb, D6, h6⟩, hC3.out.trans hc6⟩, ((hbel.mono hbs).trans hb3).trans hbel6⟩
  · have HP := Lib.hid (show capR qs most nm x = (2, qs) by unfold capR; rw [if_neg hok])
    cases hnm : namedB nm with
    | false =>
      go_wp2_with fail
      go_ret
      rw [HP.out]
      exact ⟨rfl, ⟨lab, ⟨mb, D, H.out⟩, Chg.below (Below.refl _ _)⟩, Below.refl _ _⟩
    | true =>
      by_cases h1 : x < 1
      · go_wp2_with fail
        go_ret
        rw [HP.out]
        exact ⟨rfl, ⟨lab, ⟨mb, D, H.out⟩, Chg.below (Below.refl _ _)⟩, Below.refl _ _⟩
      · have h2 : 65536 < x := Classical.byContradiction (fun e => hok ⟨hnm, by omega, by omega⟩)
        go_wp2_with fail
        go_ret
        rw [HP.out]
        exact ⟨rfl, ⟨lab, ⟨mb, D, H.out⟩, Chg.below (Below.refl _ _)⟩, Below.refl _ _⟩
theorem Cap_any {W : World} {base p : Nat} {most : Int} {qs : List (Nm × Qu)} (h : RIs W base p most qs) (nm : Nm) (hn : nm.length ≤ maxLen) (x : Int) (hl : qs.length ≤ 100000) :
    Calls Try.prog 13 #[.pointer (some ⟨p, 0, none⟩), .string (bstr nm), .int .i64 x] W fun e w' => e = .returned (.int .i64 (capR qs most nm x).1) ∧ RIs w' base p most ((capR qs most nm x).2) ∧ Below base W w' := by
  obtain ⟨lab, h⟩ := h.lab
  exact (Cap_lab h nm hn x hl).mono fun e w' ⟨h1, h2, h3⟩ => ⟨h1, by obtain ⟨lab', h2, _⟩ := h2; exact h2.is, h3⟩
end Go.Proofs.Ytcidifmikcnkcaa
