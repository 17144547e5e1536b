import Derived.Test.YtcidifmikcnkcaaR8D
/- The program's rings and the document's beside each other. -/
namespace Go.Proofs.Ytcidifmikcnkcaa
open Go.RowKit
set_option linter.unusedSimpArgs false
set_option linter.unusedVariables false

theorem heap_lt8 {w : World} {q : Nat} {o : Obj} (h : w.heap[q]? = some o) : q < w.heap.size := (Array.getElem?_eq_some_iff.1 h).1
theorem row_cell8 {w : World} {q j : Nat} {vs : Array Value} {t : TypeId} {v : Value} (h : w.heap[q]? = some (.cells vs t)) (hv : vs[j]? = some v) : w.cell? ⟨q, j, none⟩ = some v := by
  rw [cell_of_row w q j vs t (0, 0) h]
  exact hv
structure T8 (W w : World) (p B : Nat) (most : Int) (qs P : List (Nm × Qu)) (lab : Nat → Option Lab) (A : Option Addr) (n c : Nat) (es : List QE) (K : List (Nat × Obj)) : Prop where
  ri : RIl w W.heap.size p most qs lab
  bel : Below W.heap.size W w
  r8 : R8 (fun q => lab q = none ∧ q ≠ B) w A n c es
  eq : es.map QE.p = P
  box : Own W.heap.size 39 1 w (some ⟨B, 0, none⟩) 2 2 [.int .i64 most, .slice A n c]
  nB : lab B = none
  kb : ∀ κ, κ ∈ K → w.heap[κ.1]? = some κ.2 ∧ lab κ.1 = none ∧ κ.1 ≠ B
section
variable {W w w' : World} {p B : Nat} {most : Int} {qs P : List (Nm × Qu)} {lab lab' : Nat → Option Lab} {A : Option Addr} {n c : Nat} {es : List QE} {K K' : List (Nat × Obj)}
theorem T8.ring {qs' : List (Nm × Qu)} (h : T8 W w p B most qs P lab A n c es K) (hr : RIl w' W.heap.size p most qs' lab') (hc : Chg lab lab' w w') (hb : Below W.heap.size w w') : T8 W w' p B most qs' P lab' A n c es K := by
  have hB := own_lt8 h.box _ rfl
  have hg : ∀ {A : Option Addr} {vs : List Value}, RowG (fun q => lab q = none ∧ q ≠ B) w A vs → RowG (fun q => lab' q = none ∧ q ≠ B) w' A vs := fun {A vs} hr hne a ha => ⟨Nat.lt_of_lt_of_le (hr hne a ha).1 hc.size, hc.none (hr hne a ha).1 (hr hne a ha).2.1, (hr hne a ha).2.2⟩
  exact ⟨hr, h.bel.trans hb, ⟨sl_moved h.r8.sl (fun hne a ha => hc.block _ (h.r8.lies hne a ha).1 (h.r8.lies hne a ha).2.1), hg h.r8.lies, fun e he => ⟨sl_moved (h.r8.ok e he).1 (fun hne a ha => hc.block _ ((h.r8.ok e he).2 hne a ha).1 ((h.r8.ok e he).2 hne a ha).2.1), hg (h.r8.ok e he).2⟩⟩, h.eq,
    own_same h.box (fun a ha => hc.block _ (own_lt8 h.box a ha).2 (by cases ha; exact h.nB)), hc.none hB.2 h.nB, fun κ hk => by
      obtain ⟨g1, g2, g3⟩ := h.kb κ hk
      exact ⟨(hc.block _ (heap_lt8 g1) g2).trans g1, hc.none (heap_lt8 g1) g2, g3⟩⟩
theorem T8.below (h : T8 W w p B most qs P lab A n c es K) (hb : Below w.heap.size w w') : T8 W w' p B most qs P lab A n c es K :=
  h.ring (h.ri.below hb) (Chg.below hb) (hb.mono h.bel.size)
theorem T8.subK (h : T8 W w p B most qs P lab A n c es K) (hk : ∀ κ, κ ∈ K' → κ ∈ K) : T8 W w p B most qs P lab A n c es K' := ⟨h.ri, h.bel, h.r8, h.eq, h.box, h.nB, fun κ hq => h.kb κ (hk κ hq)⟩
theorem T8.alloc (h : T8 W w p B most qs P lab A n c es K) (o : Obj) : T8 W (w.alloc o) p B most qs P lab A n c es ((w.heap.size, o) :: K) := by
  have h2 := h.below (below_alloc1 w o)
  have hB := (own_lt8 h.box _ rfl).2
  exact ⟨h2.ri, h2.bel, h2.r8, h2.eq, h2.box, h2.nB, fun κ hk => by
    rcases List.mem_cons.1 hk with h5 | h5
    · subst h5
      exact ⟨heap_alloc_new w o, h.ri.labN (Nat.le_refl _), by simp only at hB ⊢; omega⟩
    · exact h2.kb κ h5⟩
theorem T8.held (h : T8 W w p B most qs P lab A n c es K) {q : Nat} {o : Obj} (hr : (q, o) ∈ K) : w.heap[q]? = some o := (h.kb _ hr).1
theorem T8.cellK {q j : Nat} {vs : Array Value} {t : TypeId} {v : Value} (h : T8 W w p B most qs P lab A n c es K) (hm : (q, Obj.cells vs t) ∈ K) (hv : vs[j]? = some v) : w.cell? ⟨q, j, none⟩ = some v := row_cell8 (h.held hm) hv
theorem T8.cb (h : T8 W w p B most qs P lab A n c es K) : w.cell? ⟨B, 0, none⟩ = some (.int .i64 most) ∧ w.cell? ⟨B, 1, none⟩ = some (.slice A n c) := by
  have m0 := World.ownsRow.cellAt h.box 0 (by omega)
  have m1 := World.ownsRow.cellAt h.box 1 (by omega)
  simp only [List.getElem?_cons_zero, List.getElem?_cons_succ] at m0 m1
  exact ⟨m0, m1⟩
theorem T8.gok (h : T8 W w p B most qs P lab A n c es K) : ∀ q, w.heap.size ≤ q → lab q = none ∧ q ≠ B := fun q hq => ⟨h.ri.labN hq, fun e => by have h1 := (own_lt8 h.box _ rfl).2; simp only at h1; omega⟩
/-- the document's rings are stored into their box -/
theorem T8.put (h : T8 W w p B most qs P lab A n c es K) {P2 : List (Nm × Qu)} {A2 : Option Addr} {n2 c2 : Nat} {es2 : List QE} (r2 : R8 (fun q => lab q = none ∧ q ≠ B) w A2 n2 c2 es2) (eq : es2.map QE.p = P2) :
    T8 W ((w.setCell ⟨B, 0, none⟩ (.int .i64 most)).setCell ⟨B, 1, none⟩ (.slice A2 n2 c2)) p B most qs P2 lab A2 n2 c2 es2 K := by
  have st := stored28 h.box (.int .i64 most) (.slice A2 n2 c2)
  have hB := own_lt8 h.box _ rfl
  have key : ∀ {A : Option Addr} {vs : List Value}, RowG (fun q => lab q = none ∧ q ≠ B) w A vs → RowG (fun q => lab q = none ∧ q ≠ B) ((w.setCell ⟨B, 0, none⟩ (.int .i64 most)).setCell ⟨B, 1, none⟩ (.slice A2 n2 c2)) A vs := fun h => h.size st.2.size
  have ks : ∀ {A : Option Addr} {size n c : Nat} {vs : List Value}, Sl w size A n c vs → RowG (fun q => lab q = none ∧ q ≠ B) w A vs → Sl ((w.setCell ⟨B, 0, none⟩ (.int .i64 most)).setCell ⟨B, 1, none⟩ (.slice A2 n2 c2)) size A n c vs := fun hs h => sl_moved hs (fun hne a ha => st.2.block _ (h hne a ha).1 (fun e => (h hne a ha).2.2 (Option.some.inj e)))
  exact ⟨h.ri.grown st.2 h.nB, h.bel.grown st.2 h.bel.size (fun q hq => by cases hq; exact hB.1), ⟨ks r2.sl r2.lies, key r2.lies, fun e he => ⟨ks (r2.ok e he).1 (r2.ok e he).2, key (r2.ok e he).2⟩⟩, eq, st.1, h.nB, fun κ hk => by
    obtain ⟨g1, g2, g3⟩ := h.kb κ hk
    exact ⟨(st.2.block _ (heap_lt8 g1) (fun e => g3 (Option.some.inj e))).trans g1, g2, g3⟩⟩
theorem RIl.nodup8 (h : RIl w W.heap.size p most qs lab) : (qs.map Prod.fst).Nodup := by
  obtain ⟨mb, D, h⟩ := h
  exact h.nodup
end
/-- how long the queues are, and their caps -/
def Few8 (P : List (Nm × Qu)) (M : Int) (i : Nat) : Prop := ∀ nm, (getQ P M nm).l.length ≤ i ∧ 0 ≤ (getQ P M nm).most ∧ (getQ P M nm).most ≤ 65536
theorem few_with {P : List (Nm × Qu)} {M : Int} {i : Nat} (h : Few8 P M i) (hM : 0 ≤ M ∧ M ≤ 65536) (nm : Nm) (q : Qu) (hq : q.l.length ≤ i + 1 ∧ 0 ≤ q.most ∧ q.most ≤ 65536) : Few8 (withP P M nm q) M (i + 1) := fun nm' => by
  have h1 := h nm'
  unfold getQ at h1 ⊢
  rw [lk_with]
  by_cases e : nm' = nm
  · rw [if_pos e]
    split
    · simp only [Option.getD_none, List.length_nil]
      split <;> omega
    · exact hq
  · rw [if_neg e]
    omega
theorem Few8.mono {P : List (Nm × Qu)} {M : Int} {i j : Nat} (h : Few8 P M i) (hj : i ≤ j) : Few8 P M j := fun nm => by have := h nm; omega
theorem few_put {P : List (Nm × Qu)} {M : Int} {i : Nat} (h : Few8 P M i) (hM : 0 ≤ M ∧ M ≤ 65536) (nm : Nm) (x : Int) : Few8 (put8 P M nm x).1 M (i + 1) := by
  have h1 := h nm
  unfold put8
  split
  · exact h.mono (by omega)
  · split
    · exact h.mono (by omega)
    · split
      · exact h.mono (by omega)
      · exact few_with h hM nm _ (by simp only [List.length_append, List.length_singleton]; omega)
theorem few_cap {P : List (Nm × Qu)} {M : Int} {i : Nat} (h : Few8 P M i) (hM : 0 ≤ M ∧ M ≤ 65536) (nm : Nm) (x : Int) : Few8 (cap8 P M nm x).1 M (i + 1) := by
  have h1 := h nm
  unfold cap8
  split
  · exact h.mono (by omega)
  · rename_i hb
    split
    · exact h.mono (by omega)
    · have h2 : ¬ x < 1 := fun e => hb (.inr (.inl e))
      have h3 : ¬ 65536 < x := fun e => hb (.inr (.inr e))
      exact few_with h hM nm _ (by simp only; omega)
theorem few_take {P : List (Nm × Qu)} {M : Int} {i : Nat} (h : Few8 P M i) (hM : 0 ≤ M ∧ M ≤ 65536) (nm : Nm) : Few8 (take8 P M nm).1 M (i + 1) := by
  have h1 := h nm
  unfold take8
  split
  · exact h.mono (by omega)
  · rename_i y r hl
    rw [hl] at h1
    simp only [List.length_cons] at h1
    exact few_with h hM nm _ (by simp only; omega)
theorem few_drop {P : List (Nm × Qu)} {M : Int} {i : Nat} (h : Few8 P M i) (hM : 0 ≤ M ∧ M ≤ 65536) (nm : Nm) (x : Int) : Few8 (drop8 P M nm x).1 M (i + 1) := by
  have h1 := h nm
  unfold drop8
  split
  · exact few_with h hM nm _ (by simp only [List.length_append, List.length_take, List.length_drop]; omega)
  · exact h.mono (by omega)
end Go.Proofs.Ytcidifmikcnkcaa
