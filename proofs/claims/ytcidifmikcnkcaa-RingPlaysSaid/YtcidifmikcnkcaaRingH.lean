import Derived.Test.YtcidifmikcnkcaaRingG
/- Rings: Put, New, Look, Len, Room, All. -/
namespace Go.Proofs.Ytcidifmikcnkcaa
open Go.RowKit Go.Maps Go.WideShapes Go.WideMaps
set_option linter.unusedSimpArgs false
set_option linter.unusedVariables false

def RIl (w : World) (base p : Nat) (most : Int) (qs : List (Nm × Qu)) (lab : Nat → Option Lab) : Prop := ∃ mb D, RH w base p mb most qs D lab (fun _ => True)
def RIs (w : World) (base p : Nat) (most : Int) (qs : List (Nm × Qu)) : Prop := ∃ mb D lab, RH w base p mb most qs D lab (fun _ => True)
theorem RIl.is {w : World} {base p : Nat} {most : Int} {qs : List (Nm × Qu)} {lab : Nat → Option Lab} (h : RIl w base p most qs lab) : RIs w base p most qs := by
  obtain ⟨mb, D, h⟩ := h
  exact ⟨mb, D, lab, h⟩
theorem RIs.lab {w : World} {base p : Nat} {most : Int} {qs : List (Nm × Qu)} (h : RIs w base p most qs) : ∃ lab, RIl w base p most qs lab := by
  obtain ⟨mb, D, lab, h⟩ := h
  exact ⟨lab, mb, D, h⟩
theorem RIl.below {w w' : World} {base p : Nat} {most : Int} {qs : List (Nm × Qu)} {lab : Nat → Option Lab} (h : RIl w base p most qs lab) (hb : Below w.heap.size w w') : RIl w' base p most qs lab := by
  obtain ⟨mb, D, h⟩ := h
  exact ⟨mb, D, h.below hb⟩
theorem RIl.grown {w w' : World} {base p g : Nat} {most : Int} {qs : List (Nm × Qu)} {lab : Nat → Option Lab} (h : RIl w base p most qs lab) (hb : w.grownBy w' (some g)) (hg : lab g = none) : RIl w' base p most qs lab := by
  obtain ⟨mb, D, h⟩ := h
  refine ⟨mb, D, h.kept hb.size (fun k hk => hb.block k (h.labN k hk) (fun e => ?_))⟩
  cases e
  rw [hg] at hk
  cases hk
theorem RIl.lt {w : World} {base p : Nat} {most : Int} {qs : List (Nm × Qu)} {lab : Nat → Option Lab} (h : RIl w base p most qs lab) : base ≤ p ∧ p < w.heap.size := by
  obtain ⟨mb, D, h⟩ := h
  exact ⟨h.lt.1, h.lt.2.1⟩
theorem RIl.labN {w : World} {base p : Nat} {most : Int} {qs : List (Nm × Qu)} {lab : Nat → Option Lab} (h : RIl w base p most qs lab) {k : Nat} (hk : w.heap.size ≤ k) : lab k = none := by
  obtain ⟨mb, D, h⟩ := h
  cases h2 : lab k with
  | none => rfl
  | some l => have := h.labN k (by rw [h2]; rfl); omega
theorem RIs.below {w w' : World} {base p : Nat} {most : Int} {qs : List (Nm × Qu)} (h : RIs w base p most qs) (hb : Below w.heap.size w w') : RIs w' base p most qs := by
  obtain ⟨mb, D, lab, h⟩ := h
  exact ⟨mb, D, lab, h.below hb⟩
theorem RIs.lt {w : World} {base p : Nat} {most : Int} {qs : List (Nm × Qu)} (h : RIs w base p most qs) : base ≤ p ∧ p < w.heap.size := by
  obtain ⟨mb, D, lab, h⟩ := h
  exact ⟨h.lt.1, h.lt.2.1⟩
theorem RH.stepQ {w w' : World} {base p mb b : Nat} {most : Int} {qs : List (Nm × Qu)} {D : DataW Unit} {lab : Nat → Option Lab} {nm : Nm} {A A' : Option Addr} {n c f : Nat} {q' : Qu} {L : List Int} (h : RH w base p mb most qs D lab (· ≠ nm)) (hs : QStep w w' b A)
    (hb : lab b = some (.que nm)) (hA : ∀ a, A = some a → lab a.block = some (.row nm)) (q : QIs w' base b q' A' n c f L) (hA' : A' = A ∨ ∀ a, A' = some a → w.heap.size ≤ a.block) :
    ∃ lab', RH w' base p mb most qs D lab' (· ≠ nm) ∧ lab' b = some (.que nm) ∧ (∀ a, A' = some a → lab' a.block = some (.row nm)) ∧ Chg lab lab' w w' := by
  have h2 := h.step hs hb hA
  have hc : Chg lab lab w w' := Chg.q hs (by rw [hb]; rfl) (fun a ha => by rw [hA a ha]; rfl)
  rcases hA' with rfl | hA'
  · exact ⟨lab, h2, hb, hA, hc⟩
  · cases hA2 : A' with
    | none => exact ⟨lab, h2, hb, by simp, hc⟩
    | some a =>
      have h3 := hA' a hA2
      have h4 := (World.ownsRow.lt q.row a.block (by simp [Value.ownBlock, hA2])).2
      refine ⟨_, h2.label h.labN h3 h4 (.row nm), ?_, ?_, ?_⟩
      · have := h.labN b (by rw [hb]; rfl)
        rw [if_neg (by omega)]; exact hb
      · intro a' ha'
        cases ha'
        rw [if_pos rfl]
      · refine ⟨hc.os, hc.tape, hc.output, hc.size, hc.block, fun k hk => ?_⟩
        by_cases e : k = a.block
        · exact .inr (by omega)
        · exact .inl (by simpa [e] using hk)

def putR (qs : List (Nm × Qu)) (most : Int) (nm : Nm) (x : Int) : Int × List (Nm × Qu) :=
  if namedB nm = true then
    (if (getQ qs most nm).most ≤ (getQ qs most nm).l.length then (50, qs)
    else if ((lk qs nm).isSome || decide (qs.length < 1000)) = true then (0, keepQ qs most nm ⟨(getQ qs most nm).most, (getQ qs most nm).l ++ [x]⟩) else (5, qs))
  else (2, qs)
set_option maxRecDepth 100000 in
set_option maxHeartbeats 4000000 in
theorem Put_lab {W : World} {base p : Nat} {most : Int} {qs : List (Nm × Qu)} {lab : Nat → Option Lab} (h : RIl W base p most qs lab) (nm : Nm) (hn : nm.length ≤ maxLen) (x : Int) (hl : qs.length ≤ 100000) :
    Calls Try.prog 12 #[.pointer (some ⟨p, 0, none⟩), .string (bstr nm), .int .i64 x] W fun e w' => e = .returned (.int .i64 (putR qs most nm x).1) ∧ (∃ lab', RIl w' base p most (putR qs most nm x).2 lab' ∧ Chg lab lab' W w') ∧ Below base W w' := by
  have hlt := h.lt
  obtain ⟨mb, D, h⟩ := h
  obtain ⟨c0, c1⟩ := h.cell
  have H := Lib.hid h
  have hbs : base ≤ W.heap.size := by omega
  have hnil := fun w (r : Option Nat) => run_eql_map_nil (P := Try.prog) (w := w) 58 _ _ r Try.underlying58
  go_enter Try.func12, Try.ntmps12
  go_wp2_with fail
  refine (of_any h nm hn).mono ?_; rintro e w2 ⟨b, lab2, A, n, c, f, L, rfl, h2, q2, hb, hA, hbel, hc2⟩
  have hR2 := Lib.hid (h.below hbel)
  have hC2 := Lib.hid hc2
  have hB2 := Lib.hid (Chg.below (lab := lab) hbel)
  clear hc2
  clear h
  go_wp2_with fail
  refine (right_any nm _).mono ?_; rintro e w22 ⟨rfl, rfl⟩
  cases hnm : namedB nm with
  | false =>
    have hP : putR qs most nm x = (2, qs) := by simp [putR, hnm]
    go_wp2_with fail
    go_ret
    rw [hP]
    exact ⟨rfl, ⟨lab, ⟨mb, D, hR2.out⟩, hB2.out⟩, hbel.mono hbs⟩
  | true =>
    obtain ⟨q, hq⟩ : ∃ q, getQ qs most nm = q := ⟨_, rfl⟩
    have Hq := Lib.hid hq
    rw [hq] at q2
    clear hq
    obtain ⟨d0, d1, d2, d3⟩ := q2.cell
    have hmq := q2.most
    go_upto_region 6 with fail
    go_quiet (fail)
    have hb0 := below_drewN (Below.refl w2.heap.size w2) nq
    have h3 := h2.below hb0
    have q3 := q2.below hb0
    have hR3 := Lib.hid (hR2.out.below hb0)
    have hC3 := Lib.hid (hC2.out.trans (Chg.below hb0))
    have hB3 := Lib.hid (hB2.out.trans (Chg.below hb0))
    have hbel3 := hbel.trans (hb0.mono hbel.size)
    generalize w2.drewN nq = w3 at *
    clear h2 q2 hR2 hC2 hB2 hb0 hbel d0 d1 d2 d3
    by_cases hfull : q.most ≤ q.l.length
    · have hP : putR qs most nm x = (50, qs) := by unfold putR; rw [if_pos hnm, Hq.out, if_pos hfull]
      go_wp2_with fail
      go_ret
      rw [hP]
      exact ⟨rfl, ⟨lab, ⟨mb, D, hR3.out⟩, hB3.out⟩, hbel3.mono hbs⟩
    · go_wp2_with fail
      refine (may_any h3 nm hn).mono ?_; rintro e w4 ⟨rfl, rfl⟩
      cases hmay : ((lk qs nm).isSome || decide (qs.length < 1000)) with
      | false =>
        have hP : putR qs most nm x = (5, qs) := by unfold putR; rw [if_pos hnm, Hq.out, if_neg (by omega), hmay]; rfl
        go_wp2_with fail
        go_ret
        rw [hP]
        exact ⟨rfl, ⟨lab, ⟨mb, D, hR3.out⟩, hB3.out⟩, hbel3.mono hbs⟩
      | true =>
        have hP : putR qs most nm x = (0, keepQ qs most nm ⟨q.most, q.l ++ [x]⟩) := by unfold putR; rw [if_pos hnm, Hq.out, if_neg (by omega), hmay]; rfl
        have HP := Lib.hid hP
        clear hP
        go_wp2_with fail
        refine (qput_any q3 x (by omega)).mono ?_; rintro e w5 ⟨rfl, A5, n5, c5, f5, L5, q5, hs5, hA5⟩
        obtain ⟨lab5, h5, hb5, hA55, hc5⟩ := h3.stepQ hs5 hb hA q5 hA5
        have hC5 := Lib.hid (hC3.out.trans hc5)
        clear hc5
        have hbel5 : Below base W w5 := (hbel3.mono hbs).trans ⟨hs5.os, hs5.tape, hs5.output, hs5.size, fun k hk => hs5.block k (by have := hbel3.size; omega) (by have := q3.blt; omega) (fun a ha => by have := (World.ownsRow.lt q3.row a.block (by simp [Value.ownBlock, ha])).1; omega)⟩
        have hnb : 1 ≤ nm.length ∧ nm.length ≤ 40 := by unfold namedB at hnm; simp at hnm; exact hnm
        clear hs5 hA5 h3 q3 hbel3
        go_wp2_with fail
        refine (keep_any h5 q5 hb5 hA55 hnb hl).mono ?_; rintro e w6 ⟨rfl, D6, h6, hbel6, hc6⟩
        go_wp2_with fail
        go_ret
        rw [HP.out]
        exact ⟨rfl, ⟨lab5, ⟨mb, D6, h6⟩, hC5.out.trans hc6⟩, hbel5.trans hbel6⟩

theorem Put_any {W : World} {base p : Nat} {most : Int} {qs : List (Nm × Qu)} (h : RIs W base p most qs) (nm : Nm) (hn : nm.length ≤ maxLen) (x : Int) (hl : qs.length ≤ 100000) :
    Calls Try.prog 12 #[.pointer (some ⟨p, 0, none⟩), .string (bstr nm), .int .i64 x] W fun e w' => e = .returned (.int .i64 (putR qs most nm x).1) ∧ RIs w' base p most ((putR qs most nm x).2) ∧ Below base W w' := by
  obtain ⟨lab, h⟩ := h.lab
  exact (Put_lab h nm hn x hl).mono fun e w' ⟨h1, h2, h3⟩ => ⟨h1, by obtain ⟨lab', h2, _⟩ := h2; exact h2.is, h3⟩
set_option maxRecDepth 100000 in
set_option maxHeartbeats 2000000 in
theorem Len_any {W : World} {base p : Nat} {most : Int} {qs : List (Nm × Qu)} (h : RIs W base p most qs) (nm : Nm) (hn : nm.length ≤ maxLen) :
    Calls Try.prog 18 #[.pointer (some ⟨p, 0, none⟩), .string (bstr nm)] W fun e w' => e = .returned (.int .i64 (getQ qs most nm).l.length) ∧ Below W.heap.size W w' := by
  obtain ⟨mb, D, lab, h⟩ := h
  go_enter Try.func18, Try.ntmps18
  go_wp2_with fail
  refine (of_any h nm hn).mono ?_; rintro e w2 ⟨b, lab2, A, n, c, f, L, rfl, h2, q2, hb, hA, hbel, _⟩
  obtain ⟨d0, d1, d2, d3⟩ := q2.cell
  go_wp2_with fail
  go_ret
  exact ⟨rfl, hbel⟩
set_option maxRecDepth 100000 in
set_option maxHeartbeats 2000000 in
theorem All_any {W : World} {base p : Nat} {most : Int} {qs : List (Nm × Qu)} (h : RIs W base p most qs) (nm : Nm) (hn : nm.length ≤ maxLen) :
    Calls Try.prog 32 #[.pointer (some ⟨p, 0, none⟩), .string (bstr nm)] W fun e w' => ∃ A' c', e = .returned (.slice A' (getQ qs most nm).l.length c') ∧ Own W.heap.size 3 1 w' A' (getQ qs most nm).l.length c' (intsL (getQ qs most nm).l) ∧ Below W.heap.size W w' := by
  obtain ⟨mb, D, lab, h⟩ := h
  have hmf : ∀ (fn : Fn) (first cap : Array Value) (w : World), (Instr.makeFunc fn first cap).run Try.prog w = .ok (.func fn first cap) w := fun _ _ _ _ => rfl
  go_enter Try.func32, Try.ntmps32
  go_wp2_with fail
  refine (of_any h nm hn).mono ?_; rintro e w2 ⟨b, lab2, A, n, c, f, L, rfl, h2, q2, hb, hA, hbel, _⟩
  go_wp2_with fail
  refine (qall_any q2).mono ?_; rintro e w3 ⟨A3, c3, rfl, o3, _, hb3⟩
  go_wp2_with fail
  go_ret
  exact ⟨A3, c3, rfl, Own.lower o3 hbel.size, hbel.trans (hb3.mono hbel.size)⟩
end Go.Proofs.Ytcidifmikcnkcaa
