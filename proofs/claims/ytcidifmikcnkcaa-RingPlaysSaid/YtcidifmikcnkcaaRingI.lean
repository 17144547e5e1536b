import Derived.Test.YtcidifmikcnkcaaRingH
/- Rings: New, Look, Room, Take, Cap. -/
namespace Go.Proofs.Ytcidifmikcnkcaa
open Go.RowKit Go.Maps Go.WideShapes Go.WideMaps
set_option linter.unusedSimpArgs false
set_option linter.unusedVariables false

def lookR (q : Qu) : Int × Bool := match q.l with | [] => (0, false) | x :: _ => (x, true)
set_option maxRecDepth 100000 in
set_option maxHeartbeats 2000000 in
theorem Look_any {W : World} {base p : Nat} {most : Int} {qs : List (Nm × Qu)} (h : RIs W base p most qs) (nm : Nm) (hn : nm.length ≤ maxLen) :
    Calls Try.prog 31 #[.pointer (some ⟨p, 0, none⟩), .string (bstr nm)] W fun e w' => e = .returned (.tuple #[.int .i64 (lookR (getQ qs most nm)).1, .bool (lookR (getQ qs most nm)).2]) ∧ Below W.heap.size W w' := by
  obtain ⟨mb, D, lab, h⟩ := h
  go_enter Try.func31, Try.ntmps31
  go_wp2_with fail
  refine (of_any h nm hn).mono ?_; rintro e w2 ⟨b, lab2, A, n, c, f, L, rfl, h2, q2, hb, hA, hbel, _⟩
  obtain ⟨q, hq⟩ : ∃ q, getQ qs most nm = q := ⟨_, rfl⟩
  rw [hq] at q2
  have Hq := Lib.hid hq
  clear hq
  obtain ⟨d0, d1, d2, d3⟩ := q2.cell
  have hlen := q2.len
  cases hql : q.l with
  | nil =>
    rw [hql] at d3
    have HL := Lib.hid (show lookR q = (0, false) by unfold lookR; rw [hql])
    go_wp2_with fail
    go_ret2
    rw [Hq.out, HL.out]
    exact ⟨rfl, hbel⟩
  | cons x r =>
    have hr0 := q2.ring 0 x (by rw [hql]; rfl)
    rw [hql] at hlen
    simp only [List.length_cons] at hlen
    have hf : f < n := by rcases q2.from_ with h | h <;> omega
    rw [Nat.add_zero, Nat.mod_eq_of_lt hf] at hr0
    obtain ⟨g, rfl, _, _⟩ := own_addr q2.row (by omega)
    have hcell := own_cell q2.row hr0
    have hin : (0 : Int) ≤ (f : Int) ∧ (f : Int) < (n : Int) := by omega
    have HL := Lib.hid (show lookR q = (x, true) by unfold lookR; rw [hql])
    have hne : ¬ (q.l.length : Int) = 0 := by rw [hql]; simp; omega
    clear hr0 hql q2 hlen h2 h
    go_upto_region 4 with fail
    go_quiet (fail)
    go_wp2_with fail
    go_ret2
    rw [Hq.out, HL.out]
    exact ⟨rfl, below_drewN hbel _⟩

theorem RIs.named {w : World} {base p : Nat} {most : Int} {qs : List (Nm × Qu)} (h : RIs w base p most qs) {nm : Nm} (hl : (getQ qs most nm).l ≠ []) : 1 ≤ nm.length ∧ nm.length ≤ 40 := by
  obtain ⟨mb, D, lab, h⟩ := h
  cases hk : lk qs nm with
  | none => simp [getQ, hk] at hl
  | some q => exact h.named nm q hk
def takeR (qs : List (Nm × Qu)) (most : Int) (nm : Nm) : List (Nm × Qu) :=
  if (getQ qs most nm).l = [] then qs else keepQ qs most nm ⟨(getQ qs most nm).most, (getQ qs most nm).l.eraseIdx 0⟩
set_option maxRecDepth 100000 in
set_option maxHeartbeats 4000000 in
theorem Take_lab {W : World} {base p : Nat} {most : Int} {qs : List (Nm × Qu)} {lab : Nat → Option Lab} (h : RIl W base p most qs lab) (nm : Nm) (hn : nm.length ≤ maxLen) (hl : qs.length ≤ 100000) :
    Calls Try.prog 23 #[.pointer (some ⟨p, 0, none⟩), .string (bstr nm)] W fun e w' => e = .returned (.tuple #[.int .i64 (lookR (getQ qs most nm)).1, .bool (lookR (getQ qs most nm)).2]) ∧ (∃ lab', RIl w' base p most (takeR qs most nm) lab' ∧ Chg lab lab' W w') ∧ Below base W w' := by
  have hlt := h.lt
  have hbs : base ≤ W.heap.size := by omega
  go_enter Try.func23, Try.ntmps23
  go_wp2_with fail
  refine (Look_any h.is nm hn).mono ?_; rintro e w1 ⟨rfl, hb1⟩
  have h1 := h.below hb1
  have hC1 := Lib.hid (Chg.below (lab := lab) hb1)
  have hnm := fun hh => h1.is.named (nm := nm) hh
  have hb1 := hb1.mono hbs
  clear h
  cases hql : (getQ qs most nm).l with
  | nil =>
    have hL : lookR (getQ qs most nm) = (0, false) := by simp [lookR, hql]
    have hP : takeR qs most nm = qs := by unfold takeR; rw [if_pos hql]
    rw [hL]
    go_wp2_with fail
    go_ret2
    rw [hL, hP]
    exact ⟨rfl, ⟨lab, h1, hC1.out⟩, hb1⟩
  | cons x r =>
    have hL : lookR (getQ qs most nm) = (x, true) := by simp [lookR, hql]
    have hP : takeR qs most nm = keepQ qs most nm ⟨(getQ qs most nm).most, (getQ qs most nm).l.eraseIdx 0⟩ := by unfold takeR; rw [if_neg (by rw [hql]; simp)]
    have hnb := hnm (by rw [hql]; simp)
    have hlen : 0 < (getQ qs most nm).l.length := by rw [hql]; simp
    rw [hL]
    have HP := Lib.hid hP
    have HL := Lib.hid hL
    clear hL hP hnm hql
    obtain ⟨mb, D, h1⟩ := h1
    go_wp2_with fail
    refine (of_any h1 nm hn).mono ?_; rintro e w2 ⟨b, lab2, A, n, c, f, L, rfl, h2, q2, hb, hA, hbel, hc2⟩
    have hC2 := Lib.hid (hC1.out.trans hc2)
    clear hc2 hC1
    have hbel2 := hb1.trans (hbel.mono (Nat.le_trans hbs hb1.size))
    clear h1
    go_wp2_with fail
    refine (qcut_any q2 0 hlen).mono ?_; rintro e w3 ⟨rfl, f3, L3, q3, hs3⟩
    obtain ⟨lab3, h3, hb3, hA3, hc3⟩ := h2.stepQ hs3 hb hA q3 (.inl rfl)
    have hC3 := Lib.hid (hC2.out.trans hc3)
    clear hc3
    have hbel3 : Below base W w3 := hbel2.trans ⟨hs3.os, hs3.tape, hs3.output, hs3.size, fun k hk => hs3.block k (by have := hbel2.size; omega) (by have := q2.blt; omega) (fun a ha => by have := (World.ownsRow.lt q2.row a.block (by simp [Value.ownBlock, ha])).1; omega)⟩
    clear hs3 h2 q2 hbel2
    go_wp2_with fail
    refine (keep_any h3 q3 hb3 hA3 hnb hl).mono ?_; rintro e w6 ⟨rfl, D6, h6, hbel6, hc6⟩
    go_wp2_with fail
    go_ret2
    rw [HL.out, HP.out]
    exact ⟨rfl, ⟨lab3, ⟨mb, D6, h6⟩, hC3.out.trans hc6⟩, hbel3.trans hbel6⟩

theorem Take_any {W : World} {base p : Nat} {most : Int} {qs : List (Nm × Qu)} (h : RIs W base p most qs) (nm : Nm) (hn : nm.length ≤ maxLen) (hl : qs.length ≤ 100000) :
    Calls Try.prog 23 #[.pointer (some ⟨p, 0, none⟩), .string (bstr nm)] W fun e w' => e = .returned (.tuple #[.int .i64 (lookR (getQ qs most nm)).1, .bool (lookR (getQ qs most nm)).2]) ∧ RIs w' base p most (takeR qs most nm) ∧ Below base W w' := by
  obtain ⟨lab, h⟩ := h.lab
  exact (Take_lab h nm hn hl).mono fun e w' ⟨h1, h2, h3⟩ => ⟨h1, by obtain ⟨lab', h2, _⟩ := h2; exact h2.is, h3⟩
def capR (qs : List (Nm × Qu)) (most : Int) (nm : Nm) (x : Int) : Int × List (Nm × Qu) :=
  if namedB nm = true ∧ 1 ≤ x ∧ x ≤ 65536 then
    (if ((lk qs nm).isSome || decide (qs.length < 1000)) = false ∧ x ≠ most then (5, qs) else (0, keepQ qs most nm ⟨x, (getQ qs most nm).l⟩))
  else (2, qs)
set_option maxRecDepth 100000 in
set_option maxHeartbeats 2000000 in
theorem New_lab (W : World) (x : Int) :
    Calls Try.prog 10 #[.int .i64 x] W fun e w' => (if 1 ≤ x ∧ x ≤ 65536 then ∃ p, e = .returned (.tuple #[.pointer (some ⟨p, 0, none⟩), .int .i64 0]) ∧ (∃ lab, RIl w' W.heap.size p x [] lab ∧ ∀ k, (lab k).isSome = true → W.heap.size ≤ k) else e = .returned (.tuple #[.pointer none, .int .i64 2])) ∧ Below W.heap.size W w' := by
  have hmm := @run_makeMap Try.prog
  have b1 := below_alloc1 W (.map #[] 0)
  have b2 := below_alloc1 (W.alloc (.map #[] 0)) (.cells #[.int .i64 x, .map (some W.heap.size)] 60)
  have fin : 1 ≤ x ∧ x ≤ 65536 → ∃ lab, RIl ((W.alloc (.map #[] 0)).alloc (.cells #[.int .i64 x, .map (some W.heap.size)] 60)) W.heap.size (W.heap.size + 1) x [] lab ∧ ∀ k, (lab k).isSome = true → W.heap.size ≤ k := by
    intro hx
    have ho := new_own (W.alloc (.map #[] 0)) [.int .i64 x, .map (some W.heap.size)] 60 2 rfl (by unfold maxLen; omega)
    rw [show (W.alloc (.map #[] 0)).heap.size = W.heap.size + 1 by simp] at ho
    refine ⟨fun j => if j = W.heap.size then some .map else if j = W.heap.size + 1 then some .root else none, ⟨W.heap.size, .map [], Own.lower ho (by omega), ownsMap_below (World.ownsMap_made (H := Unit) W Try.prog 9 ptrElem) b2, Nat.le_refl _, by simp, by simp, rfl, fun nm => rfl, fun nm q _ hq => by simp [lk_nil] at hq, fun nm q hq => by simp [lk_nil] at hq, by simp, hx, fun j hj => ?_, fun nm q hq => by simp [lk_nil] at hq⟩, fun k hk => ?_⟩
    rotate_left
    · by_cases e : k = W.heap.size
      · omega
      · by_cases e2 : k = W.heap.size + 1
        · omega
        · simp [e, e2] at hk
    simp at hj ⊢
    split at hj
    · omega
    · split at hj
      · omega
      · simp at hj
  have Hfin := Lib.hid fin
  clear fin
  go_enter Try.func10, Try.ntmps10
  by_cases h1 : x < 1
  · go_wp2_with fail
    go_ret2
    exact ⟨by first | rfl | (rw [if_neg (by omega)]; rfl) | simp, Below.refl _ _⟩
  by_cases h2 : 65536 < x
  · go_wp2_with fail
    go_ret2
    exact ⟨by first | rfl | (rw [if_neg (by omega)]; rfl) | simp, Below.refl _ _⟩
  go_wp2_with fail
  go_ret2
  refine ⟨?_, b1.trans (b2.mono b1.size)⟩
  have := Hfin.out (by omega)
  first | exact ⟨_, rfl, this⟩ | rw [if_pos (by omega)]
  try first | exact ⟨_, rfl, this⟩ | exact ⟨W.heap.size + 1, by simp, this⟩
theorem New_any (W : World) (x : Int) :
    Calls Try.prog 10 #[.int .i64 x] W fun e w' => (if 1 ≤ x ∧ x ≤ 65536 then ∃ p, e = .returned (.tuple #[.pointer (some ⟨p, 0, none⟩), .int .i64 0]) ∧ RIs w' W.heap.size p x [] else e = .returned (.tuple #[.pointer none, .int .i64 2])) ∧ Below W.heap.size W w' :=
  (New_lab W x).mono fun e w' ⟨h1, h2⟩ => ⟨by
    split
    · rename_i hx
      rw [if_pos hx] at h1
      obtain ⟨p, he, lab, hr, _⟩ := h1
      exact ⟨p, he, hr.is⟩
    · rename_i hx
      rw [if_neg hx] at h1
      exact h1, h2⟩
end Go.Proofs.Ytcidifmikcnkcaa
