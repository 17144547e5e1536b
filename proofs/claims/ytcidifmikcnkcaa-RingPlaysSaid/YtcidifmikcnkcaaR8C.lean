import Derived.Test.YtcidifmikcnkcaaR8B
/- The document's rings, by value: Cap, Put, Take, Drop (printed by wip/gen/gr8c.py). -/
namespace Go.Proofs.Ytcidifmikcnkcaa
open Go.RowKit
set_option linter.unusedSimpArgs false
set_option linter.unusedVariables false

theorem R8.past {G : Nat → Prop} {w wx w' : World} {q : Nat} {A : Option Addr} {n c : Nat} {es : List QE} (h : R8 G w A n c es) (hb : Below w.heap.size w wx) (hg : wx.grownBy w' (some q)) (hq : w.heap.size ≤ q) : R8 G w' A n c es :=
  ⟨sl_past (h.sl.below hb) (fun hne a ha => (h.lies hne a ha).1) hb.size hg hq, h.lies.size (Nat.le_trans hb.size hg.size), fun e he => ⟨sl_past ((h.ok e he).1.below hb) (fun hne a ha => ((h.ok e he).2 hne a ha).1) hb.size hg hq, (h.ok e he).2.size (Nat.le_trans hb.size hg.size)⟩⟩
theorem R8.nar {G : Nat → Prop} {w : World} {A : Option Addr} {n c b : Nat} {es : List QE} (h : R8 G w A n c es) (hb : w.heap.size ≤ b) : R8 (fun q => G q ∧ q ≠ b) w A n c es := by
  have key : ∀ {A : Option Addr} {vs : List Value}, RowG G w A vs → RowG (fun q => G q ∧ q ≠ b) w A vs := fun h hne a ha => ⟨(h hne a ha).1, (h hne a ha).2, fun e => by have := (h hne a ha).1; omega⟩
  exact ⟨h.sl, key h.lies, fun e he => ⟨(h.ok e he).1, key (h.ok e he).2⟩⟩
theorem R8.off {G : Nat → Prop} {w w' : World} {A : Option Addr} {n c b : Nat} {es : List QE} (h : R8 (fun q => G q ∧ q ≠ b) w A n c es) (hg : w.grownBy w' (some b)) : R8 G w' A n c es := by
  have key : ∀ {A : Option Addr} {vs : List Value}, RowG (fun q => G q ∧ q ≠ b) w A vs → RowG G w' A vs := fun h hne a ha => ⟨Nat.lt_of_lt_of_le (h hne a ha).1 hg.size, (h hne a ha).2.1⟩
  have ks : ∀ {A : Option Addr} {size n c : Nat} {vs : List Value}, Sl w size A n c vs → RowG (fun q => G q ∧ q ≠ b) w A vs → Sl w' size A n c vs := fun hs h => sl_moved hs (fun hne a ha => hg.block _ (h hne a ha).1 (fun e => (h hne a ha).2.2 (Option.some.inj e)))
  exact ⟨ks h.sl h.lies, key h.lies, fun e he => ⟨ks (h.ok e he).1 (h.ok e he).2, key (h.ok e he).2⟩⟩
theorem infoInt8 : ∃ i, Try.prog.info? 3 = some i ∧ i.size = 1 := by
  obtain ⟨i, h1, _, h2, _⟩ := info_parts infoInt
  exact ⟨i, h1, h2⟩
theorem cutF8 (A : Option Addr) (n c m : Nat) (M : Int) (hM : M = (m : Int)) (hm : m ≤ n) :
    ∃ A' : Option Addr, (∀ W : World, (Instr.slice 22 (.slice A n c) (some (.int .i64 M)) none none).run Try.prog W = .ok (.slice A' (n - m) (c - m)) W) ∧ (∀ a, A' = some a → ∃ a0, A = some a0 ∧ a0.block = a.block) ∧ ∀ (w : World) (l : List Int), Sl w 1 A n c (intsL l) → Sl w 1 A' (n - m) (c - m) (intsL (l.drop m)) := by
  obtain ⟨i, hi, hs⟩ := infoInt8
  obtain ⟨A', h1, h0, h2⟩ := cut_from (P := Try.prog) 22 3 .i64 Try.underlying22 hi A n c m M hM hm
  refine ⟨A', h1, h0, fun w l h => ?_⟩
  have := h2 w (intsL l) (by rw [hs]; exact h)
  rw [hs, Nat.mul_one] at this
  rwa [show (intsL l).drop m = intsL (l.drop m) by simp [intsL, List.map_drop]] at this
theorem cutT8 (A : Option Addr) (n c m : Nat) (M : Int) (hM : M = (m : Int)) (hm : m ≤ c) (W : World) : (Instr.slice 22 (.slice A n c) none (some (.int .i64 M)) none).run Try.prog W = .ok (.slice A m c) W := by
  obtain ⟨i, hi, hs⟩ := infoInt8
  exact cut_to (P := Try.prog) 22 3 .i64 Try.underlying22 hi A n c m M hM hm W
theorem slI_take8 {w : World} {A : Option Addr} {n c : Nat} {l : List Int} (k : Nat) (hk : k ≤ n) (h : Sl w 1 A n c (intsL l)) : Sl w 1 A k c (intsL (l.take k)) := by
  have := h.to_ k hk
  rwa [Nat.mul_one, show (intsL l).take k = intsL (l.take k) by simp [intsL, List.map_take]] at this
/-- what a call tells that leaves rings and one thing more -/
def Op8 (G : Nat → Prop) (w : World) (most : Int) (P : List (Nm × Qu)) (v : Value) (x : Ending) (w' : World) : Prop :=
  ∃ A' n' c' es', x = .returned (.tuple #[.agg #[.int .i64 most, .slice A' n' c'], v]) ∧ R8 G w' A' n' c' es' ∧ es'.map QE.p = P ∧ Below w.heap.size w w'
theorem own_lt8 {base size n c : Nat} {e : TypeId} {w : World} {A : Option Addr} {cs : List Value} (h : Own base e size w A n c cs) : ∀ a, A = some a → base ≤ a.block ∧ a.block < w.heap.size := by
  intro a ha
  subst ha
  rcases h.2 with ⟨h0, _⟩ | ⟨g, cap, cur, h0, h1, h2, h3⟩
  · simp at h0
  · simp only [Value.slice.injEq, Option.some.injEq] at h0
    rw [h0.1]
    exact ⟨h1, (Array.getElem?_eq_some_iff.1 h2).1⟩
theorem own_row8 {base size n c bq B0 : Nat} {e : TypeId} {w w' : World} {A : Option Addr} {cs : List Value} (h : Own base e size w (some ⟨bq, 0, none⟩) n c cs) (hg : w.grownBy w' (rowOf B0 A)) (hb : bq < B0) : Own base e size w' (some ⟨bq, 0, none⟩) n c cs :=
  own_same h (fun a ha => hg.block _ (own_lt8 h a ha).2 (fun e => by have h1 := rowOf_ge e.symm; cases ha; simp only at h1; omega))
section
variable {w : World} {most : Int} {A : Option Addr} {n c : Nat} {es : List QE}
def Take8P (G : Nat → Prop) (w : World) (most : Int) (R : List (Nm × Qu) × Int × Bool) (x : Ending) (w' : World) : Prop :=
  ∃ A' n' c' es', x = .returned (.tuple #[.agg #[.int .i64 most, .slice A' n' c'], .int .i64 R.2.1, .bool R.2.2]) ∧ R8 G w' A' n' c' es' ∧ es'.map QE.p = R.1 ∧ Below w.heap.size w w'
set_option maxRecDepth 100000 in
set_option maxHeartbeats 16000000 in
theorem r8Take_any {G : Nat → Prop} (hG : ∀ q, w.heap.size ≤ q → G q) (hs : R8 G w A n c es) (hsrt : SrtP (es.map QE.p)) (hn : n ≤ 1000) (nm : Nm) :
    Calls Try.prog 24 #[.agg #[.int .i64 most, .slice A n c], .string (bstr nm)] w (Take8P G w most (take8 (es.map QE.p) most nm)) := by
  have hln := slQE_len hs.sl
  obtain ⟨PP, hPP⟩ : ∃ PP, PP = es.map QE.p := ⟨_, rfl⟩
  have HPP := Lib.hid hPP
  rw [← hPP] at hsrt ⊢
  clear hPP
  have hb1 := below_alloc1 w (.cells #[.int .i64 most, .slice A n c] 39)
  have o1 := new_own w [.int .i64 most, .slice A n c] 39 2 rfl (by unfold maxLen; omega)
  obtain ⟨w1, hw1⟩ : ∃ w1, w1 = w.alloc (.cells #[.int .i64 most, .slice A n c] 39) := ⟨_, rfl⟩
  have hT1 : (w.alloc (.cells [Value.int .i64 most, .slice A n c].toArray 39)) = w1 := hw1.symm
  rw [hT1] at o1
  rw [← hw1] at hb1
  have hz1 : w1.heap.size = w.heap.size + 1 := by rw [hw1]; simp
  have hb2 := below_alloc1 w1 (.cells #[.int .i64 0, .slice none 0 0] 39)
  have o2 := new_own w1 [.int .i64 0, .slice none 0 0] 39 2 rfl (by unfold maxLen; omega)
  obtain ⟨w2, hw2⟩ : ∃ w2, w2 = w1.alloc (.cells #[.int .i64 0, .slice none 0 0] 39) := ⟨_, rfl⟩
  have hT2 : (w1.alloc (.cells [Value.int .i64 0, .slice none 0 0].toArray 39)) = w2 := hw2.symm
  rw [hT2, hz1] at o2
  rw [← hw2] at hb2
  have hz2 : w2.heap.size = w.heap.size + 2 := by rw [hw2]; simp [hz1]
  have eW : (w.alloc (.cells #[.int .i64 most, .slice A n c] 39)).alloc (.cells #[.int .i64 0, .slice none 0 0] 39) = w2 := by rw [hw2, hw1]
  have O1 := Lib.hid (Own.below o1 hb2)
  have OR := Lib.hid (Own.lower o2 (show w.heap.size ≤ w.heap.size + 1 by omega))
  have HB := Lib.hid (hb1.trans (hb2.mono hb1.size))
  have H0 := Lib.hid hs
  have HG := Lib.hid hG
  have HSRT := Lib.hid hsrt
  have HZ2 := Lib.hid hz2
  clear hb1 hb2 hw1 hw2 hT1 hT2 hz1 hz2 o1 o2 hs hG hsrt
  go_enter Try.func24, Try.ntmps24
  go_upto_region 1 with fail
  clear eW
  have ob1 := Own.below O1.out (Below.refl w2.heap.size w2)
  have k0 := World.ownsRow.cellAt ob1 0 (by omega)
  have k1 := World.ownsRow.cellAt ob1 1 (by omega)
  simp only [List.getElem?_cons_zero, List.getElem?_cons_succ] at k0 k1
  clear ob1
  obtain ⟨q0, hq0⟩ : ∃ q0, q0 = getQ PP most nm := ⟨_, rfl⟩
  obtain ⟨th, hth⟩ : ∃ th, th = (lk PP nm).isSome := ⟨_, rfl⟩
  have hoc := r8Of_any (G := (fun q => G q ∧ q ≠ w.heap.size + 1)) (most := most) (((H0.out.nar (Nat.le_add_right _ 1)).below HB.out).below (Below.refl w2.heap.size w2)) (by omega) nm
  unfold Of8P at hoc
  rw [← HPP.out, ← hq0, ← hth] at hoc
  have HQ0 := Lib.hid hq0
  have HTH := Lib.hid hth
  clear hq0 hth
  obtain ⟨mq, l⟩ := q0
  simp only at hoc
  go_wp2_with fail
  refine hoc.mono ?_; rintro x w3 ⟨B, d, rfl, sq, gq, b3⟩
  have HW3 := Lib.hid ((Below.refl w2.heap.size w2).trans (b3.mono (Below.refl w2.heap.size w2).size))
  have oq := new_own w3 [.string (bstr nm), .int .i64 mq, .slice B l.length d] 53 3 rfl (by unfold maxLen; omega)
  have hb4 := below_alloc1 w3 (.cells #[.string (bstr nm), .int .i64 mq, .slice B l.length d] 53)
  clear hoc k0 k1 b3
  go_upto_region 2 with fail
  obtain ⟨w4, hw4⟩ : ∃ w4, w4 = w3.alloc (.cells #[.string (bstr nm), .int .i64 mq, .slice B l.length d] 53) := ⟨_, rfl⟩
  have hT4 : (w3.alloc (.cells [Value.string (bstr nm), .int .i64 mq, .slice B l.length d].toArray 53)) = w4 := hw4.symm
  rw [hT4] at oq
  rw [← hw4] at hb4 ⊢
  obtain ⟨bq, hbq⟩ : ∃ bq, bq = w3.heap.size := ⟨_, rfl⟩
  rw [← hbq] at oq ⊢
  have HBQ := Lib.hid (show w2.heap.size ≤ bq by rw [hbq]; exact HW3.out.size)
  have HBL := Lib.hid (show w3.heap.size ≤ bq by rw [hbq]; exact Nat.le_refl _)
  have OQ := Lib.hid oq
  have HW4 := Lib.hid (HW3.out.trans (hb4.mono HW3.out.size))
  have SQ := Lib.hid (sq.below hb4)
  have GQ := Lib.hid (show RowG (fun q => G q ∧ q ≠ w.heap.size + 1) w4 B (intsL l) from gq.size hb4.size)
  have GL := Lib.hid (show intsL l ≠ [] → ∀ a, B = some a → a.block < bq from fun hne a ha => by rw [hbq]; exact (gq hne a ha).1)
  have hll := slI_len sq
  clear hw4 hT4 hbq oq sq gq hb4 HW3
  have q0 := World.ownsRow.cellAt OQ.out 0 (by omega)
  have q1 := World.ownsRow.cellAt OQ.out 1 (by omega)
  have q2 := World.ownsRow.cellAt OQ.out 2 (by omega)
  simp only [List.getElem?_cons_zero, List.getElem?_cons_succ] at q0 q1 q2
  cases l with
  | nil =>
    have HE := Lib.hid (show take8 PP most nm = (PP, 0, false) by unfold take8; rw [← HQ0.out])
    have ob1 := Own.below O1.out (HW4.out)
    have k0 := World.ownsRow.cellAt ob1 0 (by omega)
    have k1 := World.ownsRow.cellAt ob1 1 (by omega)
    simp only [List.getElem?_cons_zero, List.getElem?_cons_succ] at k0 k1
    clear ob1
    have or7 := Own.below OR.out (HW4.out)
    have f0 := World.ownsRow.frozenAt or7 0
    have f1 := World.ownsRow.frozenAt or7 1
    have m0 := World.ownsRow.cellAt or7 0 (by omega)
    have m1 := World.ownsRow.cellAt or7 1 (by omega)
    simp only [List.getElem?_cons_zero, List.getElem?_cons_succ] at m0 m1
    have Hst := Lib.hid (stored28 or7 (.int .i64 most) (.slice A n c))
    clear or7
    go_wp2_with fail
    refine bodyPost_ret (results_cell2 rfl _ _ _ ⟨w.heap.size + 1, 0, none⟩ rfl _ (load8R Hst.out.1)) rfl ?_
    have hbW := HB.out.trans ((HW4.out).mono HB.out.size)
    rw [HE.out]
    exact ⟨A, n, c, es, rfl, H0.out.past hbW Hst.out.2 (by omega), HPP.out.symm, wrote8 hbW Hst.out.2 (by omega)⟩
  | cons y r =>
    have HE := Lib.hid (show take8 PP most nm = (withP PP most nm ⟨mq, r⟩, y, true) by unfold take8; rw [← HQ0.out])
    have hlp : (((r.length + 1 : Nat) : Int) == 0) = false := by simp; omega
    obtain ⟨ad, hB, hc0⟩ := slI_cell SQ.out (k := 0) (x := y) rfl
    subst hB
    rw [show ad.add 0 = ad by simp [Addr.add]] at hc0
    have hin : (0 : Int) ≤ 0 ∧ (0 : Int) < ((r.length + 1 : Nat) : Int) := by omega
    obtain ⟨AX, hAX, hbx, hAS⟩ := cutF8 (some ad) (r.length + 1) d 1 1 rfl (by omega)
    rw [Nat.add_sub_cancel] at hAX hAS
    have HAS := Lib.hid hAS
    have HBX := Lib.hid hbx
    have g2 := World.ownsRow.frozenAt OQ.out 2
    have st := World.ownsRow.stored OQ.out 2 (.slice AX r.length (d - 1))
    have OQ2 := Lib.hid st.1
    have HS5 := Lib.hid st.2
    simp only [List.length_cons] at q2 ⊢
    clear st hAS hbx
    go_upto_region 6 with fail
    obtain ⟨w5, hw5⟩ : ∃ w5, w5 = w4.setCell ⟨bq, 2, none⟩ (.slice AX r.length (d - 1)) := ⟨_, rfl⟩
    rw [← hw5] at OQ2 HS5 ⊢
    clear hw5 g2 q0 q1 q2 hc0
    have HW5 := Lib.hid (HW4.out.grown HS5.out HW4.out.size (fun k hk => by cases hk; exact HBQ.out))
    simp only [List.set_cons_zero, List.set_cons_succ] at OQ2
    have SX := Lib.hid (show Sl w5 1 AX r.length (d - 1) (intsL r) from by
      have h1 := HAS.out w4 (y :: r) SQ.out
      simp only [List.drop_succ_cons, List.drop_zero] at h1
      exact sl_past h1 (N := bq) (fun hne a ha => by obtain ⟨a0, h2, h3⟩ := HBX.out a ha; rw [← h3]; exact GL.out (by simp [intsL]) a0 h2) (by have := (own_lt8 OQ.out _ rfl).2; exact Nat.le_of_lt this) HS5.out (Nat.le_refl _))
    have GX := Lib.hid (show RowG (fun q => G q ∧ q ≠ w.heap.size + 1) w5 AX (intsL r) from fun hne a ha => by obtain ⟨a0, h2, h3⟩ := HBX.out a ha; have h4 := GQ.out (by simp [intsL]) a0 h2; rw [h3] at h4; exact ⟨Nat.lt_of_lt_of_le h4.1 HS5.out.size, h4.2⟩)
    have ob1 := Own.below O1.out (HW5.out)
    have k0 := World.ownsRow.cellAt ob1 0 (by omega)
    have k1 := World.ownsRow.cellAt ob1 1 (by omega)
    simp only [List.getElem?_cons_zero, List.getElem?_cons_succ] at k0 k1
    clear ob1
    have q0 := World.ownsRow.cellAt OQ2.out 0 (by omega)
    have q1 := World.ownsRow.cellAt OQ2.out 1 (by omega)
    have q2 := World.ownsRow.cellAt OQ2.out 2 (by omega)
    simp only [List.getElem?_cons_zero, List.getElem?_cons_succ] at q0 q1 q2
    have hwc := r8with_any (most := most) (G := (fun q => G q ∧ q ≠ w.heap.size + 1)) (fun q hq => ⟨HG.out q (by have h1 := HB.out.size; have h2 := HW5.out.size; omega), by have h1 := HZ2.out; have h2 := HW5.out.size; omega⟩) (((H0.out.nar (Nat.le_add_right _ 1)).below HB.out).below HW5.out) (by rw [← HPP.out]; exact HSRT.out) (by omega) ⟨nm, ⟨mq, r⟩, AX, d - 1⟩ ⟨SX.out, GX.out⟩
    unfold With8P at hwc
    rw [← HPP.out] at hwc
    go_wp2_with fail
    refine hwc.mono ?_; rintro x w9 ⟨A9, n9, c9, es9, rfl, r9, e9, b9⟩
    have HW9 := Lib.hid (HW5.out.trans (b9.mono HW5.out.size))
    have R9 := Lib.hid r9
    have E9 := Lib.hid e9
    clear hwc r9 e9 b9 k0 k1 q0 q1 q2
    have or7 := Own.below OR.out (HW9.out)
    have f0 := World.ownsRow.frozenAt or7 0
    have f1 := World.ownsRow.frozenAt or7 1
    have m0 := World.ownsRow.cellAt or7 0 (by omega)
    have m1 := World.ownsRow.cellAt or7 1 (by omega)
    simp only [List.getElem?_cons_zero, List.getElem?_cons_succ] at m0 m1
    have Hst := Lib.hid (stored28 or7 (.int .i64 most) (.slice A9 n9 c9))
    clear or7
    go_wp2_with fail
    refine bodyPost_ret (results_cell2 rfl _ _ _ ⟨w.heap.size + 1, 0, none⟩ rfl _ (load8R Hst.out.1)) rfl ?_
    have hbW := HB.out.trans (HW9.out.mono HB.out.size)
    rw [HE.out]
    exact ⟨A9, n9, c9, es9, rfl, R9.out.off Hst.out.2, E9.out, wrote8 hbW Hst.out.2 (by omega)⟩
set_option maxRecDepth 100000 in
set_option maxHeartbeats 16000000 in
theorem r8Cap_any {G : Nat → Prop} (hG : ∀ q, w.heap.size ≤ q → G q) (hs : R8 G w A n c es) (hsrt : SrtP (es.map QE.p)) (hn : n ≤ 1000) (nm : Nm) (x : Int) :
    Calls Try.prog 27 #[.agg #[.int .i64 most, .slice A n c], .string (bstr nm), .int .i64 x] w (Op8 G w most (cap8 (es.map QE.p) most nm x).1 (.int .i64 (cap8 (es.map QE.p) most nm x).2)) := by
  have hln := slQE_len hs.sl
  obtain ⟨PP, hPP⟩ : ∃ PP, PP = es.map QE.p := ⟨_, rfl⟩
  have HPP := Lib.hid hPP
  rw [← hPP] at hsrt ⊢
  clear hPP
  have hb1 := below_alloc1 w (.cells #[.int .i64 most, .slice A n c] 39)
  have o1 := new_own w [.int .i64 most, .slice A n c] 39 2 rfl (by unfold maxLen; omega)
  obtain ⟨w1, hw1⟩ : ∃ w1, w1 = w.alloc (.cells #[.int .i64 most, .slice A n c] 39) := ⟨_, rfl⟩
  have hT1 : (w.alloc (.cells [Value.int .i64 most, .slice A n c].toArray 39)) = w1 := hw1.symm
  rw [hT1] at o1
  rw [← hw1] at hb1
  have hz1 : w1.heap.size = w.heap.size + 1 := by rw [hw1]; simp
  have hb2 := below_alloc1 w1 (.cells #[.int .i64 0, .slice none 0 0] 39)
  have o2 := new_own w1 [.int .i64 0, .slice none 0 0] 39 2 rfl (by unfold maxLen; omega)
  obtain ⟨w2, hw2⟩ : ∃ w2, w2 = w1.alloc (.cells #[.int .i64 0, .slice none 0 0] 39) := ⟨_, rfl⟩
  have hT2 : (w1.alloc (.cells [Value.int .i64 0, .slice none 0 0].toArray 39)) = w2 := hw2.symm
  rw [hT2, hz1] at o2
  rw [← hw2] at hb2
  have hz2 : w2.heap.size = w.heap.size + 2 := by rw [hw2]; simp [hz1]
  have eW : (w.alloc (.cells #[.int .i64 most, .slice A n c] 39)).alloc (.cells #[.int .i64 0, .slice none 0 0] 39) = w2 := by rw [hw2, hw1]
  have O1 := Lib.hid (Own.below o1 hb2)
  have OR := Lib.hid (Own.lower o2 (show w.heap.size ≤ w.heap.size + 1 by omega))
  have HB := Lib.hid (hb1.trans (hb2.mono hb1.size))
  have H0 := Lib.hid hs
  have HG := Lib.hid hG
  have HSRT := Lib.hid hsrt
  have HZ2 := Lib.hid hz2
  clear hb1 hb2 hw1 hw2 hT1 hT2 hz1 hz2 o1 o2 hs hG hsrt
  go_enter Try.func27, Try.ntmps27
  go_upto_region 1 with fail
  clear eW
  have hrc := r8right_any nm w2
  by_cases hbad : namedB nm = false ∨ x < 1 ∨ 65536 < x
  · have HE := Lib.hid (show cap8 PP most nm x = (PP, 2) by unfold cap8; rw [if_pos hbad])
    cases hnb : namedB nm with
    | false =>
      rw [hnb] at hrc
      clear hbad hnb
      have ob1 := Own.below O1.out (Below.refl w2.heap.size w2)
      have k0 := World.ownsRow.cellAt ob1 0 (by omega)
      have k1 := World.ownsRow.cellAt ob1 1 (by omega)
      simp only [List.getElem?_cons_zero, List.getElem?_cons_succ] at k0 k1
      clear ob1
      have or7 := Own.below OR.out (Below.refl w2.heap.size w2)
      have f0 := World.ownsRow.frozenAt or7 0
      have f1 := World.ownsRow.frozenAt or7 1
      have m0 := World.ownsRow.cellAt or7 0 (by omega)
      have m1 := World.ownsRow.cellAt or7 1 (by omega)
      simp only [List.getElem?_cons_zero, List.getElem?_cons_succ] at m0 m1
      have Hst := Lib.hid (stored28 or7 (.int .i64 most) (.slice A n c))
      clear or7
      go_wp2_with fail
      refine hrc.mono ?_; rintro y w5 ⟨rfl, rfl⟩
      clear hrc
      go_wp2_with fail
      refine bodyPost_ret (results8_1 rfl _ _ _ ⟨w.heap.size + 1, 0, none⟩ rfl _ (load8R Hst.out.1)) rfl ?_
      have hbW := HB.out.trans ((Below.refl w2.heap.size w2).mono HB.out.size)
      rw [HE.out]
      exact ⟨A, n, c, es, rfl, H0.out.past hbW Hst.out.2 (by omega), HPP.out.symm, wrote8 hbW Hst.out.2 (by omega)⟩
    | true =>
      have hb2 : x < 1 ∨ 65536 < x := by rw [hnb] at hbad; simpa using hbad
      rw [hnb] at hrc
      clear hbad hnb
      by_cases g1 : x < 1
      · clear hb2
        have ob1 := Own.below O1.out (Below.refl w2.heap.size w2)
        have k0 := World.ownsRow.cellAt ob1 0 (by omega)
        have k1 := World.ownsRow.cellAt ob1 1 (by omega)
        simp only [List.getElem?_cons_zero, List.getElem?_cons_succ] at k0 k1
        clear ob1
        have or7 := Own.below OR.out (Below.refl w2.heap.size w2)
        have f0 := World.ownsRow.frozenAt or7 0
        have f1 := World.ownsRow.frozenAt or7 1
        have m0 := World.ownsRow.cellAt or7 0 (by omega)
        have m1 := World.ownsRow.cellAt or7 1 (by omega)
        simp only [List.getElem?_cons_zero, List.getElem?_cons_succ] at m0 m1
        have Hst := Lib.hid (stored28 or7 (.int .i64 most) (.slice A n c))
        clear or7
        go_wp2_with fail
        refine hrc.mono ?_; rintro y w5 ⟨rfl, rfl⟩
        clear hrc
        go_wp2_with fail
        refine bodyPost_ret (results8_1 rfl _ _ _ ⟨w.heap.size + 1, 0, none⟩ rfl _ (load8R Hst.out.1)) rfl ?_
        have hbW := HB.out.trans ((Below.refl w2.heap.size w2).mono HB.out.size)
        rw [HE.out]
        exact ⟨A, n, c, es, rfl, H0.out.past hbW Hst.out.2 (by omega), HPP.out.symm, wrote8 hbW Hst.out.2 (by omega)⟩
      · have g2 : 65536 < x := by omega
        clear hb2
        have ob1 := Own.below O1.out (Below.refl w2.heap.size w2)
        have k0 := World.ownsRow.cellAt ob1 0 (by omega)
        have k1 := World.ownsRow.cellAt ob1 1 (by omega)
        simp only [List.getElem?_cons_zero, List.getElem?_cons_succ] at k0 k1
        clear ob1
        have or7 := Own.below OR.out (Below.refl w2.heap.size w2)
        have f0 := World.ownsRow.frozenAt or7 0
        have f1 := World.ownsRow.frozenAt or7 1
        have m0 := World.ownsRow.cellAt or7 0 (by omega)
        have m1 := World.ownsRow.cellAt or7 1 (by omega)
        simp only [List.getElem?_cons_zero, List.getElem?_cons_succ] at m0 m1
        have Hst := Lib.hid (stored28 or7 (.int .i64 most) (.slice A n c))
        clear or7
        go_wp2_with fail
        refine hrc.mono ?_; rintro y w5 ⟨rfl, rfl⟩
        clear hrc
        go_wp2_with fail
        refine bodyPost_ret (results8_1 rfl _ _ _ ⟨w.heap.size + 1, 0, none⟩ rfl _ (load8R Hst.out.1)) rfl ?_
        have hbW := HB.out.trans ((Below.refl w2.heap.size w2).mono HB.out.size)
        rw [HE.out]
        exact ⟨A, n, c, es, rfl, H0.out.past hbW Hst.out.2 (by omega), HPP.out.symm, wrote8 hbW Hst.out.2 (by omega)⟩
  · have hnb : namedB nm = true := by
      cases h : namedB nm with
      | true => rfl
      | false => exact absurd (.inl h) hbad
    have g1 : ¬ x < 1 := fun h => hbad (.inr (.inl h))
    have g2 : ¬ 65536 < x := fun h => hbad (.inr (.inr h))
    have HBad := Lib.hid hbad
    rw [hnb] at hrc
    clear hbad hnb
    go_upto_region 3 with (refine hrc.mono ?_; rintro y w5 ⟨rfl, rfl⟩)
    clear hrc
    have ob1 := Own.below O1.out (Below.refl w2.heap.size w2)
    have k0 := World.ownsRow.cellAt ob1 0 (by omega)
    have k1 := World.ownsRow.cellAt ob1 1 (by omega)
    simp only [List.getElem?_cons_zero, List.getElem?_cons_succ] at k0 k1
    clear ob1
    obtain ⟨q0, hq0⟩ : ∃ q0, q0 = getQ PP most nm := ⟨_, rfl⟩
    obtain ⟨th, hth⟩ : ∃ th, th = (lk PP nm).isSome := ⟨_, rfl⟩
    have hoc := r8Of_any (G := (fun q => G q ∧ q ≠ w.heap.size + 1)) (most := most) (((H0.out.nar (Nat.le_add_right _ 1)).below HB.out).below (Below.refl w2.heap.size w2)) (by omega) nm
    unfold Of8P at hoc
    rw [← HPP.out, ← hq0, ← hth] at hoc
    have HQ0 := Lib.hid hq0
    have HTH := Lib.hid hth
    clear hq0 hth
    obtain ⟨mq, l⟩ := q0
    simp only at hoc
    go_wp2_with fail
    refine hoc.mono ?_; rintro x w3 ⟨B, d, rfl, sq, gq, b3⟩
    have HW3 := Lib.hid ((Below.refl w2.heap.size w2).trans (b3.mono (Below.refl w2.heap.size w2).size))
    have oq := new_own w3 [.string (bstr nm), .int .i64 mq, .slice B l.length d] 53 3 rfl (by unfold maxLen; omega)
    have hb4 := below_alloc1 w3 (.cells #[.string (bstr nm), .int .i64 mq, .slice B l.length d] 53)
    clear hoc k0 k1 b3
    go_upto_region 4 with fail
    obtain ⟨w4, hw4⟩ : ∃ w4, w4 = w3.alloc (.cells #[.string (bstr nm), .int .i64 mq, .slice B l.length d] 53) := ⟨_, rfl⟩
    have hT4 : (w3.alloc (.cells [Value.string (bstr nm), .int .i64 mq, .slice B l.length d].toArray 53)) = w4 := hw4.symm
    rw [hT4] at oq
    rw [← hw4] at hb4 ⊢
    obtain ⟨bq, hbq⟩ : ∃ bq, bq = w3.heap.size := ⟨_, rfl⟩
    rw [← hbq] at oq ⊢
    have HBQ := Lib.hid (show w2.heap.size ≤ bq by rw [hbq]; exact HW3.out.size)
    have HBL := Lib.hid (show w3.heap.size ≤ bq by rw [hbq]; exact Nat.le_refl _)
    have OQ := Lib.hid oq
    have HW4 := Lib.hid (HW3.out.trans (hb4.mono HW3.out.size))
    have SQ := Lib.hid (sq.below hb4)
    have GQ := Lib.hid (show RowG (fun q => G q ∧ q ≠ w.heap.size + 1) w4 B (intsL l) from gq.size hb4.size)
    have GL := Lib.hid (show intsL l ≠ [] → ∀ a, B = some a → a.block < bq from fun hne a ha => by rw [hbq]; exact (gq hne a ha).1)
    have hll := slI_len sq
    clear hw4 hT4 hbq oq sq gq hb4 HW3
    have q0 := World.ownsRow.cellAt OQ.out 0 (by omega)
    have q1 := World.ownsRow.cellAt OQ.out 1 (by omega)
    have q2 := World.ownsRow.cellAt OQ.out 2 (by omega)
    simp only [List.getElem?_cons_zero, List.getElem?_cons_succ] at q0 q1 q2
    have g3 := World.ownsRow.frozenAt OQ.out 1
    have st := World.ownsRow.stored OQ.out 1 (.int .i64 x)
    have OQ2 := Lib.hid st.1
    have HS5 := Lib.hid st.2
    clear st
    go_upto_region 5 with fail
    obtain ⟨w5, hw5⟩ : ∃ w5, w5 = w4.setCell ⟨bq, 1, none⟩ (.int .i64 x) := ⟨_, rfl⟩
    rw [← hw5] at OQ2 HS5 ⊢
    clear hw5 g3 q0 q1 q2
    have HW5 := Lib.hid (HW4.out.grown HS5.out HW4.out.size (fun k hk => by cases hk; exact HBQ.out))
    simp only [List.set_cons_zero, List.set_cons_succ] at OQ2
    have SX := Lib.hid (sl_past SQ.out (N := bq) GL.out (Nat.le_of_lt (own_lt8 OQ.out _ rfl).2) HS5.out (Nat.le_refl _))
    have GX := Lib.hid (show RowG (fun q => G q ∧ q ≠ w.heap.size + 1) w5 B (intsL l) from GQ.out.size HS5.out.size)
    have ob1 := Own.below O1.out (HW5.out)
    have k0 := World.ownsRow.cellAt ob1 0 (by omega)
    have k1 := World.ownsRow.cellAt ob1 1 (by omega)
    simp only [List.getElem?_cons_zero, List.getElem?_cons_succ] at k0 k1
    clear ob1
    have q0 := World.ownsRow.cellAt OQ2.out 0 (by omega)
    have q1 := World.ownsRow.cellAt OQ2.out 1 (by omega)
    have q2 := World.ownsRow.cellAt OQ2.out 2 (by omega)
    simp only [List.getElem?_cons_zero, List.getElem?_cons_succ] at q0 q1 q2
    have hwc := r8with_any (most := most) (G := (fun q => G q ∧ q ≠ w.heap.size + 1)) (fun q hq => ⟨HG.out q (by have h1 := HB.out.size; have h2 := HW5.out.size; omega), by have h1 := HZ2.out; have h2 := HW5.out.size; omega⟩) (((H0.out.nar (Nat.le_add_right _ 1)).below HB.out).below HW5.out) (by rw [← HPP.out]; exact HSRT.out) (by omega) ⟨nm, ⟨x, l⟩, B, d⟩ ⟨SX.out, GX.out⟩
    unfold With8P at hwc
    rw [← HPP.out] at hwc
    go_wp2_with fail
    refine hwc.mono ?_; rintro x w9 ⟨A9, n9, c9, es9, rfl, r9, e9, b9⟩
    have HW9 := Lib.hid (HW5.out.trans (b9.mono HW5.out.size))
    have R9 := Lib.hid r9
    have E9 := Lib.hid e9
    clear hwc r9 e9 b9 k0 k1 q0 q1 q2
    have ob := new_own w9 [.int .i64 most, .slice A9 n9 c9] 39 2 rfl (by unfold maxLen; omega)
    have hb10 := below_alloc1 w9 (.cells #[.int .i64 most, .slice A9 n9 c9] 39)
    have HN9 := Lib.hid (show n9 = (withP PP most nm ⟨x, l⟩).length by rw [← E9.out, List.length_map, slQE_len R9.out.sl])
    go_upto_region 6 with fail
    obtain ⟨w10, hw10⟩ : ∃ w10, w10 = w9.alloc (.cells #[.int .i64 most, .slice A9 n9 c9] 39) := ⟨_, rfl⟩
    have hT10 : (w9.alloc (.cells [Value.int .i64 most, .slice A9 n9 c9].toArray 39)) = w10 := hw10.symm
    rw [hT10] at ob
    rw [← hw10] at hb10 ⊢
    obtain ⟨bx, hbx⟩ : ∃ bx, bx = w9.heap.size := ⟨_, rfl⟩
    rw [← hbx] at ob ⊢
    have HW10 := Lib.hid (HW9.out.trans (hb10.mono HW9.out.size))
    have R10 := Lib.hid (R9.out.below hb10)
    have x0 := World.ownsRow.cellAt ob 0 (by omega)
    have x1 := World.ownsRow.cellAt ob 1 (by omega)
    simp only [List.getElem?_cons_zero, List.getElem?_cons_succ] at x0 x1
    clear hw10 hT10 hbx ob hb10
    have hth2 : th = (lk PP nm).isSome := HTH.out
    have HC := Lib.hid (show cap8 PP most nm x = (if th = false ∧ 1000 < n9 then (PP, 5) else (withP PP most nm ⟨x, l⟩, 0)) by
      unfold cap8
      rw [if_neg HBad.out, ← HQ0.out, ← hth2, ← HN9.out])
    clear hth2
    cases th with
    | true =>
      have HE := Lib.hid (show cap8 PP most nm x = (withP PP most nm ⟨x, l⟩, 0) by rw [HC.out, if_neg (by simp)])
      have or7 := Own.below OR.out (HW10.out)
      have f0 := World.ownsRow.frozenAt or7 0
      have f1 := World.ownsRow.frozenAt or7 1
      have m0 := World.ownsRow.cellAt or7 0 (by omega)
      have m1 := World.ownsRow.cellAt or7 1 (by omega)
      simp only [List.getElem?_cons_zero, List.getElem?_cons_succ] at m0 m1
      have Hst := Lib.hid (stored28 or7 (.int .i64 most) (.slice A9 n9 c9))
      clear or7
      go_wp2_with fail
      refine bodyPost_ret (results8_1 rfl _ _ _ ⟨w.heap.size + 1, 0, none⟩ rfl _ (load8R Hst.out.1)) rfl ?_
      have hbW := HB.out.trans (HW10.out.mono HB.out.size)
      rw [HE.out]
      exact ⟨A9, n9, c9, es9, rfl, R10.out.off Hst.out.2, E9.out, wrote8 hbW Hst.out.2 (by omega)⟩
    | false =>
      by_cases hbig : 1000 < n9
      · have HE := Lib.hid (show cap8 PP most nm x = (PP, 5) by rw [HC.out, if_pos ⟨rfl, hbig⟩])
        have hbg : (1000 : Int) < (n9 : Int) := by omega
        have ob1 := Own.below O1.out (HW10.out)
        have k0 := World.ownsRow.cellAt ob1 0 (by omega)
        have k1 := World.ownsRow.cellAt ob1 1 (by omega)
        simp only [List.getElem?_cons_zero, List.getElem?_cons_succ] at k0 k1
        clear ob1
        have or7 := Own.below OR.out (HW10.out)
        have f0 := World.ownsRow.frozenAt or7 0
        have f1 := World.ownsRow.frozenAt or7 1
        have m0 := World.ownsRow.cellAt or7 0 (by omega)
        have m1 := World.ownsRow.cellAt or7 1 (by omega)
        simp only [List.getElem?_cons_zero, List.getElem?_cons_succ] at m0 m1
        have Hst := Lib.hid (stored28 or7 (.int .i64 most) (.slice A n c))
        clear or7
        go_wp2_with fail
        refine bodyPost_ret (results8_1 rfl _ _ _ ⟨w.heap.size + 1, 0, none⟩ rfl _ (load8R Hst.out.1)) rfl ?_
        have hbW := HB.out.trans ((HW10.out).mono HB.out.size)
        rw [HE.out]
        exact ⟨A, n, c, es, rfl, H0.out.past hbW Hst.out.2 (by omega), HPP.out.symm, wrote8 hbW Hst.out.2 (by omega)⟩
      · have HE := Lib.hid (show cap8 PP most nm x = (withP PP most nm ⟨x, l⟩, 0) by rw [HC.out, if_neg (fun h => hbig h.2)])
        have hbg : ¬ (1000 : Int) < (n9 : Int) := by omega
        have or7 := Own.below OR.out (HW10.out)
        have f0 := World.ownsRow.frozenAt or7 0
        have f1 := World.ownsRow.frozenAt or7 1
        have m0 := World.ownsRow.cellAt or7 0 (by omega)
        have m1 := World.ownsRow.cellAt or7 1 (by omega)
        simp only [List.getElem?_cons_zero, List.getElem?_cons_succ] at m0 m1
        have Hst := Lib.hid (stored28 or7 (.int .i64 most) (.slice A9 n9 c9))
        clear or7
        go_wp2_with fail
        refine bodyPost_ret (results8_1 rfl _ _ _ ⟨w.heap.size + 1, 0, none⟩ rfl _ (load8R Hst.out.1)) rfl ?_
        have hbW := HB.out.trans (HW10.out.mono HB.out.size)
        rw [HE.out]
        exact ⟨A9, n9, c9, es9, rfl, R10.out.off Hst.out.2, E9.out, wrote8 hbW Hst.out.2 (by omega)⟩
set_option maxRecDepth 100000 in
set_option maxHeartbeats 16000000 in
theorem r8Put_any {G : Nat → Prop} (hG : ∀ q, w.heap.size ≤ q → G q) (hs : R8 G w A n c es) (hsrt : SrtP (es.map QE.p)) (hn : n ≤ 1000) (nm : Nm) (x : Int) (hll0 : (getQ (es.map QE.p) most nm).l.length ≤ 1000000) :
    Calls Try.prog 22 #[.agg #[.int .i64 most, .slice A n c], .string (bstr nm), .int .i64 x] w (Op8 G w most (put8 (es.map QE.p) most nm x).1 (.int .i64 (put8 (es.map QE.p) most nm x).2)) := by
  have hln := slQE_len hs.sl
  obtain ⟨PP, hPP⟩ : ∃ PP, PP = es.map QE.p := ⟨_, rfl⟩
  have HPP := Lib.hid hPP
  rw [← hPP] at hsrt ⊢
  clear hPP
  have hb1 := below_alloc1 w (.cells #[.int .i64 most, .slice A n c] 39)
  have o1 := new_own w [.int .i64 most, .slice A n c] 39 2 rfl (by unfold maxLen; omega)
  obtain ⟨w1, hw1⟩ : ∃ w1, w1 = w.alloc (.cells #[.int .i64 most, .slice A n c] 39) := ⟨_, rfl⟩
  have hT1 : (w.alloc (.cells [Value.int .i64 most, .slice A n c].toArray 39)) = w1 := hw1.symm
  rw [hT1] at o1
  rw [← hw1] at hb1
  have hz1 : w1.heap.size = w.heap.size + 1 := by rw [hw1]; simp
  have hb2 := below_alloc1 w1 (.cells #[.int .i64 0, .slice none 0 0] 39)
  have o2 := new_own w1 [.int .i64 0, .slice none 0 0] 39 2 rfl (by unfold maxLen; omega)
  obtain ⟨w2, hw2⟩ : ∃ w2, w2 = w1.alloc (.cells #[.int .i64 0, .slice none 0 0] 39) := ⟨_, rfl⟩
  have hT2 : (w1.alloc (.cells [Value.int .i64 0, .slice none 0 0].toArray 39)) = w2 := hw2.symm
  rw [hT2, hz1] at o2
  rw [← hw2] at hb2
  have hz2 : w2.heap.size = w.heap.size + 2 := by rw [hw2]; simp [hz1]
  have eW : (w.alloc (.cells #[.int .i64 most, .slice A n c] 39)).alloc (.cells #[.int .i64 0, .slice none 0 0] 39) = w2 := by rw [hw2, hw1]
  have O1 := Lib.hid (Own.below o1 hb2)
  have OR := Lib.hid (Own.lower o2 (show w.heap.size ≤ w.heap.size + 1 by omega))
  have HB := Lib.hid (hb1.trans (hb2.mono hb1.size))
  have H0 := Lib.hid hs
  have HG := Lib.hid hG
  have HSRT := Lib.hid hsrt
  have HZ2 := Lib.hid hz2
  clear hb1 hb2 hw1 hw2 hT1 hT2 hz1 hz2 o1 o2 hs hG hsrt
  go_enter Try.func22, Try.ntmps22
  go_upto_region 1 with fail
  clear eW
  have hrc := r8right_any nm w2
  rw [← HPP.out] at hll0
  cases hnb : namedB nm with
  | false =>
    have HE := Lib.hid (show put8 PP most nm x = (PP, 2) by unfold put8; rw [if_pos hnb])
    rw [hnb] at hrc
    clear hnb
    have ob1 := Own.below O1.out (Below.refl w2.heap.size w2)
    have k0 := World.ownsRow.cellAt ob1 0 (by omega)
    have k1 := World.ownsRow.cellAt ob1 1 (by omega)
    simp only [List.getElem?_cons_zero, List.getElem?_cons_succ] at k0 k1
    clear ob1
    have or7 := Own.below OR.out (Below.refl w2.heap.size w2)
    have f0 := World.ownsRow.frozenAt or7 0
    have f1 := World.ownsRow.frozenAt or7 1
    have m0 := World.ownsRow.cellAt or7 0 (by omega)
    have m1 := World.ownsRow.cellAt or7 1 (by omega)
    simp only [List.getElem?_cons_zero, List.getElem?_cons_succ] at m0 m1
    have Hst := Lib.hid (stored28 or7 (.int .i64 most) (.slice A n c))
    clear or7
    go_wp2_with fail
    refine hrc.mono ?_; rintro y w5 ⟨rfl, rfl⟩
    clear hrc
    go_wp2_with fail
    refine bodyPost_ret (results8_1 rfl _ _ _ ⟨w.heap.size + 1, 0, none⟩ rfl _ (load8R Hst.out.1)) rfl ?_
    have hbW := HB.out.trans ((Below.refl w2.heap.size w2).mono HB.out.size)
    rw [HE.out]
    exact ⟨A, n, c, es, rfl, H0.out.past hbW Hst.out.2 (by omega), HPP.out.symm, wrote8 hbW Hst.out.2 (by omega)⟩
  | true =>
    have HNB := Lib.hid hnb
    rw [hnb] at hrc
    clear hnb
    go_upto_region 3 with (refine hrc.mono ?_; rintro y w5 ⟨rfl, rfl⟩)
    clear hrc
    have ob1 := Own.below O1.out (Below.refl w2.heap.size w2)
    have k0 := World.ownsRow.cellAt ob1 0 (by omega)
    have k1 := World.ownsRow.cellAt ob1 1 (by omega)
    simp only [List.getElem?_cons_zero, List.getElem?_cons_succ] at k0 k1
    clear ob1
    obtain ⟨q0, hq0⟩ : ∃ q0, q0 = getQ PP most nm := ⟨_, rfl⟩
    obtain ⟨th, hth⟩ : ∃ th, th = (lk PP nm).isSome := ⟨_, rfl⟩
    have hoc := r8Of_any (G := (fun q => G q ∧ q ≠ w.heap.size + 1)) (most := most) (((H0.out.nar (Nat.le_add_right _ 1)).below HB.out).below (Below.refl w2.heap.size w2)) (by omega) nm
    unfold Of8P at hoc
    rw [← HPP.out, ← hq0, ← hth] at hoc
    have HQ0 := Lib.hid hq0
    have HTH := Lib.hid hth
    clear hq0 hth
    obtain ⟨mq, l⟩ := q0
    simp only at hoc
    go_wp2_with fail
    refine hoc.mono ?_; rintro x w3 ⟨B, d, rfl, sq, gq, b3⟩
    have HW3 := Lib.hid ((Below.refl w2.heap.size w2).trans (b3.mono (Below.refl w2.heap.size w2).size))
    have oq := new_own w3 [.string (bstr nm), .int .i64 mq, .slice B l.length d] 53 3 rfl (by unfold maxLen; omega)
    have hb4 := below_alloc1 w3 (.cells #[.string (bstr nm), .int .i64 mq, .slice B l.length d] 53)
    clear hoc k0 k1 b3
    go_upto_region 4 with fail
    obtain ⟨w4, hw4⟩ : ∃ w4, w4 = w3.alloc (.cells #[.string (bstr nm), .int .i64 mq, .slice B l.length d] 53) := ⟨_, rfl⟩
    have hT4 : (w3.alloc (.cells [Value.string (bstr nm), .int .i64 mq, .slice B l.length d].toArray 53)) = w4 := hw4.symm
    rw [hT4] at oq
    rw [← hw4] at hb4 ⊢
    obtain ⟨bq, hbq⟩ : ∃ bq, bq = w3.heap.size := ⟨_, rfl⟩
    rw [← hbq] at oq ⊢
    have HBQ := Lib.hid (show w2.heap.size ≤ bq by rw [hbq]; exact HW3.out.size)
    have HBL := Lib.hid (show w3.heap.size ≤ bq by rw [hbq]; exact Nat.le_refl _)
    have OQ := Lib.hid oq
    have HW4 := Lib.hid (HW3.out.trans (hb4.mono HW3.out.size))
    have SQ := Lib.hid (sq.below hb4)
    have GQ := Lib.hid (show RowG (fun q => G q ∧ q ≠ w.heap.size + 1) w4 B (intsL l) from gq.size hb4.size)
    have GL := Lib.hid (show intsL l ≠ [] → ∀ a, B = some a → a.block < bq from fun hne a ha => by rw [hbq]; exact (gq hne a ha).1)
    have hll := slI_len sq
    clear hw4 hT4 hbq oq sq gq hb4 HW3
    have hl6 : l.length ≤ 1000000 := by rw [← HQ0.out] at hll0; exact hll0
    clear hll0
    have HC := Lib.hid (show put8 PP most nm x = (if mq ≤ (l.length : Int) then (PP, 50) else if th = false ∧ 1000 ≤ n then (PP, 5) else (withP PP most nm ⟨mq, l ++ [x]⟩, 0)) by
      unfold put8
      rw [if_neg (by rw [HNB.out]; simp), ← HQ0.out, ← HTH.out, show PP.length = n by rw [HPP.out, List.length_map, hln]])
    have q0 := World.ownsRow.cellAt OQ.out 0 (by omega)
    have q1 := World.ownsRow.cellAt OQ.out 1 (by omega)
    have q2 := World.ownsRow.cellAt OQ.out 2 (by omega)
    simp only [List.getElem?_cons_zero, List.getElem?_cons_succ] at q0 q1 q2
    by_cases hfull : mq ≤ (l.length : Int)
    · have HE := Lib.hid (show put8 PP most nm x = (PP, 50) by rw [HC.out, if_pos hfull])
      have ob1 := Own.below O1.out (HW4.out)
      have k0 := World.ownsRow.cellAt ob1 0 (by omega)
      have k1 := World.ownsRow.cellAt ob1 1 (by omega)
      simp only [List.getElem?_cons_zero, List.getElem?_cons_succ] at k0 k1
      clear ob1
      have or7 := Own.below OR.out (HW4.out)
      have f0 := World.ownsRow.frozenAt or7 0
      have f1 := World.ownsRow.frozenAt or7 1
      have m0 := World.ownsRow.cellAt or7 0 (by omega)
      have m1 := World.ownsRow.cellAt or7 1 (by omega)
      simp only [List.getElem?_cons_zero, List.getElem?_cons_succ] at m0 m1
      have Hst := Lib.hid (stored28 or7 (.int .i64 most) (.slice A n c))
      clear or7
      go_wp2_with fail
      refine bodyPost_ret (results8_1 rfl _ _ _ ⟨w.heap.size + 1, 0, none⟩ rfl _ (load8R Hst.out.1)) rfl ?_
      have hbW := HB.out.trans ((HW4.out).mono HB.out.size)
      rw [HE.out]
      exact ⟨A, n, c, es, rfl, H0.out.past hbW Hst.out.2 (by omega), HPP.out.symm, wrote8 hbW Hst.out.2 (by omega)⟩
    · by_cases hbig : th = false ∧ 1000 ≤ n
      · obtain ⟨rfl, hb2⟩ := hbig
        have HE := Lib.hid (show put8 PP most nm x = (PP, 5) by rw [HC.out, if_neg hfull, if_pos ⟨rfl, hb2⟩])
        have hbg : ¬ (n : Int) < 1000 := by omega
        have ob1 := Own.below O1.out (HW4.out)
        have k0 := World.ownsRow.cellAt ob1 0 (by omega)
        have k1 := World.ownsRow.cellAt ob1 1 (by omega)
        simp only [List.getElem?_cons_zero, List.getElem?_cons_succ] at k0 k1
        clear ob1
        have or7 := Own.below OR.out (HW4.out)
        have f0 := World.ownsRow.frozenAt or7 0
        have f1 := World.ownsRow.frozenAt or7 1
        have m0 := World.ownsRow.cellAt or7 0 (by omega)
        have m1 := World.ownsRow.cellAt or7 1 (by omega)
        simp only [List.getElem?_cons_zero, List.getElem?_cons_succ] at m0 m1
        have Hst := Lib.hid (stored28 or7 (.int .i64 most) (.slice A n c))
        clear or7
        go_wp2_with fail
        refine bodyPost_ret (results8_1 rfl _ _ _ ⟨w.heap.size + 1, 0, none⟩ rfl _ (load8R Hst.out.1)) rfl ?_
        have hbW := HB.out.trans ((HW4.out).mono HB.out.size)
        rw [HE.out]
        exact ⟨A, n, c, es, rfl, H0.out.past hbW Hst.out.2 (by omega), HPP.out.symm, wrote8 hbW Hst.out.2 (by omega)⟩
      · have HE := Lib.hid (show put8 PP most nm x = (withP PP most nm ⟨mq, l ++ [x]⟩, 0) by rw [HC.out, if_neg hfull, if_neg hbig])
        have hfin : ∀ (WIN : Prop), WIN → WIN := fun _ h => h
        clear hfin
        have hpick : th = true ∨ (n : Int) < 1000 := by
          cases th with
          | true => exact .inl rfl
          | false => exact .inr (by have : ¬ 1000 ≤ n := fun h => hbig ⟨rfl, h⟩; omega)
        clear hbig
        have ob1 := Own.below O1.out (HW4.out)
        have k0 := World.ownsRow.cellAt ob1 0 (by omega)
        have k1 := World.ownsRow.cellAt ob1 1 (by omega)
        simp only [List.getElem?_cons_zero, List.getElem?_cons_succ] at k0 k1
        clear ob1
        have ha0 := App.nil w4.heap.size 3 1 w4
        have hsq := SQ.out
        rcases hpick with rfl | hnn
        · skip
          go_upto_region 10 with (at_builtin; refine wpList_app _ rfl _ _ 22 rfl w4.heap.size 3 (.int .i64 0) 1 8 Try.underlying22 infoInt rfl (by decide) none 0 0 [] rfl ha0 B l.length d (intsL l) rfl hsq (intsL_one l) (by unfold maxLen; omega) (by omega) (Nat.le_refl _) ?_; intro A6 c6 w6 hat6)
          have hat6 : AppTo w4.heap.size 3 1 w4 w6 none A6 l.length c6 (intsL l) := by rw [List.nil_append, Nat.zero_add] at hat6; exact hat6
          have b46 : Below w4.heap.size w4 w6 := (Below.refl _ _).grown hat6.grown (Nat.le_refl _) (fun k hk => rowOf_ge hk)
          have HW6 := Lib.hid (HW4.out.trans (b46.mono HW4.out.size))
          have OQ6 := Lib.hid (Own.below OQ.out b46)
          have hs7 := sl_one w6 (.int .i64 x) 3
          have hb7 := below_alloc1 w6 (.cells #[.int .i64 x] 3)
          have ha7 := hat6.app.below hb7
          have hz7 := hb7.size
          have hz6 := b46.size
          have hz67 := Nat.le_trans hz6 hz7
          have HW7 := Lib.hid (HW6.out.trans (hb7.mono HW6.out.size))
          have OQ7 := Lib.hid (Own.below OQ6.out hb7)
          have HBQ4 := Lib.hid (show bq < w4.heap.size from (own_lt8 OQ.out _ rfl).2)
          have HLies := Lib.hid (show ∀ a, A6 = some a → w4.heap.size ≤ a.block from fun a ha => by
            rcases hat6.lies a ha with ⟨a0, k1, k2⟩ | k1
            · cases k1
            · exact k1)
          clear ha0 hsq hat6 k0 k1 q0 q1 q2 hz7 hz6 b46
          have q2 := World.ownsRow.cellAt OQ6.out 2 (by omega)
          simp only [List.getElem?_cons_zero, List.getElem?_cons_succ] at q2
          go_upto_region 11 with (at_builtin; refine wpList_app _ rfl _ _ 22 rfl w4.heap.size 3 (.int .i64 0) 1 8 Try.underlying22 infoInt rfl (by decide) A6 l.length c6 (intsL l) rfl ha7 (some ⟨w6.heap.size, 0, none⟩) 1 1 [.int .i64 x] rfl hs7 (fun u hu => by simp at hu; subst hu; rfl) (by unfold maxLen; omega) (by omega) hz67 ?_; intro A8 c8 w8 hat8; have oq8 := own_row8 OQ7.out hat8.grown HBQ4.out; have z2 := World.ownsRow.frozenAt oq8 2; have y2 := World.ownsRow.cellAt oq8 2 (by omega); simp only [List.getElem?_cons_zero, List.getElem?_cons_succ] at y2)
          have st := World.ownsRow.stored oq8 2 (.slice A8 (l.length + 1) c8)
          have HW8 := Lib.hid (show Below w2.heap.size w2 w8 from HW7.out.grown hat8.grown HW7.out.size (fun k hk => by have h1 := rowOf_ge hk; have h2 := HW4.out.size; omega))
          have HL8 := Lib.hid (show ∀ a, A8 = some a → bq < a.block ∧ a.block < w8.heap.size from fun a ha => by
            refine ⟨?_, ?_⟩
            · rcases hat8.lies a ha with ⟨a0, k1, k2⟩ | k1
              · have h1 := HLies.out a0 k1; have h2 := HBQ4.out; omega
              · have h2 := HBQ4.out; simp at k1; have h3 := hz67; simp at h3; omega
            · obtain ⟨ad, h6, h7⟩ := hat8.app.sl.cells l.length (.int .i64 x) (by simp [intsL])
              rw [ha] at h6
              cases h6
              have h8 := World.block_lt_of_cell? _ _ h7
              rwa [add_block] at h8)
          obtain ⟨l2, hl2⟩ : ∃ l2, l2 = l ++ [x] := ⟨_, rfl⟩
          have HL2 := Lib.hid hl2
          have hlen : l.length + 1 = l2.length := by rw [hl2]; simp
          rw [← hl2] at HE
          have HSl := Lib.hid (show Sl w8 1 A8 l2.length c8 (intsL l2) from by
            rw [hl2]
            have h1 := hat8.app.sl
            rw [show intsL l ++ [Value.int .i64 x] = intsL (l ++ [x]) by simp [intsL]] at h1
            rw [List.length_append, List.length_singleton]
            exact h1)
          clear hat8 ha7 hs7 oq8 q2 hz67 hb7
          obtain ⟨wz, hwz⟩ : ∃ wz, wz = w8.setCell ⟨bq, 2, none⟩ (.slice A8 (l.length + 1) c8) := ⟨_, rfl⟩
          rw [← hwz] at st ⊢
          have OQ9 := Lib.hid st.1
          have HS9 := Lib.hid st.2
          clear hwz st z2 y2
          have HWz := Lib.hid (HW8.out.grown HS9.out HW8.out.size (fun k hk => by cases hk; exact HBQ.out))
          simp only [List.set_cons_zero, List.set_cons_succ] at OQ9
          have SX := Lib.hid (show Sl wz 1 A8 l2.length c8 (intsL l2) from sl_same HSl.out (fun a ha => HS9.out.block _ (HL8.out a ha).2 (fun e => by have h1 := (HL8.out a ha).1; have h2 := Option.some.inj e; omega)))
          have GX := Lib.hid (show RowG (fun q => G q ∧ q ≠ w.heap.size + 1) wz A8 (intsL l2) from fun _ a ha => by
            have h1 := (HL8.out a ha).1
            have h2 := HBQ.out
            have h3 := HZ2.out
            have h4 := HB.out.size
            exact ⟨Nat.lt_of_lt_of_le (HL8.out a ha).2 HS9.out.size, HG.out _ (by omega), by omega⟩)
          rw [hlen] at OQ9
          clear hlen hl2
          have ob1 := Own.below O1.out (HWz.out)
          have k0 := World.ownsRow.cellAt ob1 0 (by omega)
          have k1 := World.ownsRow.cellAt ob1 1 (by omega)
          simp only [List.getElem?_cons_zero, List.getElem?_cons_succ] at k0 k1
          clear ob1
          have q0 := World.ownsRow.cellAt OQ9.out 0 (by omega)
          have q1 := World.ownsRow.cellAt OQ9.out 1 (by omega)
          have q2 := World.ownsRow.cellAt OQ9.out 2 (by omega)
          simp only [List.getElem?_cons_zero, List.getElem?_cons_succ] at q0 q1 q2
          have hwc := r8with_any (most := most) (G := (fun q => G q ∧ q ≠ w.heap.size + 1)) (fun q hq => ⟨HG.out q (by have h1 := HB.out.size; have h2 := HWz.out.size; omega), by have h1 := HZ2.out; have h2 := HWz.out.size; omega⟩) (((H0.out.nar (Nat.le_add_right _ 1)).below HB.out).below HWz.out) (by rw [← HPP.out]; exact HSRT.out) (by omega) ⟨nm, ⟨mq, l2⟩, A8, c8⟩ ⟨SX.out, GX.out⟩
          unfold With8P at hwc
          rw [← HPP.out] at hwc
          go_wp2_with fail
          refine hwc.mono ?_; rintro x w9 ⟨A9, n9, c9, es9, rfl, r9, e9, b9⟩
          have HW9 := Lib.hid (HWz.out.trans (b9.mono HWz.out.size))
          have R9 := Lib.hid r9
          have E9 := Lib.hid e9
          clear hwc r9 e9 b9 k0 k1 q0 q1 q2
          have or7 := Own.below OR.out (HW9.out)
          have f0 := World.ownsRow.frozenAt or7 0
          have f1 := World.ownsRow.frozenAt or7 1
          have m0 := World.ownsRow.cellAt or7 0 (by omega)
          have m1 := World.ownsRow.cellAt or7 1 (by omega)
          simp only [List.getElem?_cons_zero, List.getElem?_cons_succ] at m0 m1
          have Hst := Lib.hid (stored28 or7 (.int .i64 most) (.slice A9 n9 c9))
          clear or7
          go_wp2_with fail
          refine bodyPost_ret (results8_1 rfl _ _ _ ⟨w.heap.size + 1, 0, none⟩ rfl _ (load8R Hst.out.1)) rfl ?_
          have hbW := HB.out.trans (HW9.out.mono HB.out.size)
          rw [HE.out]
          exact ⟨A9, n9, c9, es9, rfl, R9.out.off Hst.out.2, E9.out, wrote8 hbW Hst.out.2 (by omega)⟩
        · cases th
          case true =>
            go_upto_region 10 with (at_builtin; refine wpList_app _ rfl _ _ 22 rfl w4.heap.size 3 (.int .i64 0) 1 8 Try.underlying22 infoInt rfl (by decide) none 0 0 [] rfl ha0 B l.length d (intsL l) rfl hsq (intsL_one l) (by unfold maxLen; omega) (by omega) (Nat.le_refl _) ?_; intro A6 c6 w6 hat6)
            have hat6 : AppTo w4.heap.size 3 1 w4 w6 none A6 l.length c6 (intsL l) := by rw [List.nil_append, Nat.zero_add] at hat6; exact hat6
            have b46 : Below w4.heap.size w4 w6 := (Below.refl _ _).grown hat6.grown (Nat.le_refl _) (fun k hk => rowOf_ge hk)
            have HW6 := Lib.hid (HW4.out.trans (b46.mono HW4.out.size))
            have OQ6 := Lib.hid (Own.below OQ.out b46)
            have hs7 := sl_one w6 (.int .i64 x) 3
            have hb7 := below_alloc1 w6 (.cells #[.int .i64 x] 3)
            have ha7 := hat6.app.below hb7
            have hz7 := hb7.size
            have hz6 := b46.size
            have hz67 := Nat.le_trans hz6 hz7
            have HW7 := Lib.hid (HW6.out.trans (hb7.mono HW6.out.size))
            have OQ7 := Lib.hid (Own.below OQ6.out hb7)
            have HBQ4 := Lib.hid (show bq < w4.heap.size from (own_lt8 OQ.out _ rfl).2)
            have HLies := Lib.hid (show ∀ a, A6 = some a → w4.heap.size ≤ a.block from fun a ha => by
              rcases hat6.lies a ha with ⟨a0, k1, k2⟩ | k1
              · cases k1
              · exact k1)
            clear ha0 hsq hat6 k0 k1 q0 q1 q2 hz7 hz6 b46
            have q2 := World.ownsRow.cellAt OQ6.out 2 (by omega)
            simp only [List.getElem?_cons_zero, List.getElem?_cons_succ] at q2
            go_upto_region 11 with (at_builtin; refine wpList_app _ rfl _ _ 22 rfl w4.heap.size 3 (.int .i64 0) 1 8 Try.underlying22 infoInt rfl (by decide) A6 l.length c6 (intsL l) rfl ha7 (some ⟨w6.heap.size, 0, none⟩) 1 1 [.int .i64 x] rfl hs7 (fun u hu => by simp at hu; subst hu; rfl) (by unfold maxLen; omega) (by omega) hz67 ?_; intro A8 c8 w8 hat8; have oq8 := own_row8 OQ7.out hat8.grown HBQ4.out; have z2 := World.ownsRow.frozenAt oq8 2; have y2 := World.ownsRow.cellAt oq8 2 (by omega); simp only [List.getElem?_cons_zero, List.getElem?_cons_succ] at y2)
            have st := World.ownsRow.stored oq8 2 (.slice A8 (l.length + 1) c8)
            have HW8 := Lib.hid (show Below w2.heap.size w2 w8 from HW7.out.grown hat8.grown HW7.out.size (fun k hk => by have h1 := rowOf_ge hk; have h2 := HW4.out.size; omega))
            have HL8 := Lib.hid (show ∀ a, A8 = some a → bq < a.block ∧ a.block < w8.heap.size from fun a ha => by
              refine ⟨?_, ?_⟩
              · rcases hat8.lies a ha with ⟨a0, k1, k2⟩ | k1
                · have h1 := HLies.out a0 k1; have h2 := HBQ4.out; omega
                · have h2 := HBQ4.out; simp at k1; have h3 := hz67; simp at h3; omega
              · obtain ⟨ad, h6, h7⟩ := hat8.app.sl.cells l.length (.int .i64 x) (by simp [intsL])
                rw [ha] at h6
                cases h6
                have h8 := World.block_lt_of_cell? _ _ h7
                rwa [add_block] at h8)
            obtain ⟨l2, hl2⟩ : ∃ l2, l2 = l ++ [x] := ⟨_, rfl⟩
            have HL2 := Lib.hid hl2
            have hlen : l.length + 1 = l2.length := by rw [hl2]; simp
            rw [← hl2] at HE
            have HSl := Lib.hid (show Sl w8 1 A8 l2.length c8 (intsL l2) from by
              rw [hl2]
              have h1 := hat8.app.sl
              rw [show intsL l ++ [Value.int .i64 x] = intsL (l ++ [x]) by simp [intsL]] at h1
              rw [List.length_append, List.length_singleton]
              exact h1)
            clear hat8 ha7 hs7 oq8 q2 hz67 hb7
            obtain ⟨wz, hwz⟩ : ∃ wz, wz = w8.setCell ⟨bq, 2, none⟩ (.slice A8 (l.length + 1) c8) := ⟨_, rfl⟩
            rw [← hwz] at st ⊢
            have OQ9 := Lib.hid st.1
            have HS9 := Lib.hid st.2
            clear hwz st z2 y2
            have HWz := Lib.hid (HW8.out.grown HS9.out HW8.out.size (fun k hk => by cases hk; exact HBQ.out))
            simp only [List.set_cons_zero, List.set_cons_succ] at OQ9
            have SX := Lib.hid (show Sl wz 1 A8 l2.length c8 (intsL l2) from sl_same HSl.out (fun a ha => HS9.out.block _ (HL8.out a ha).2 (fun e => by have h1 := (HL8.out a ha).1; have h2 := Option.some.inj e; omega)))
            have GX := Lib.hid (show RowG (fun q => G q ∧ q ≠ w.heap.size + 1) wz A8 (intsL l2) from fun _ a ha => by
              have h1 := (HL8.out a ha).1
              have h2 := HBQ.out
              have h3 := HZ2.out
              have h4 := HB.out.size
              exact ⟨Nat.lt_of_lt_of_le (HL8.out a ha).2 HS9.out.size, HG.out _ (by omega), by omega⟩)
            rw [hlen] at OQ9
            clear hlen hl2
            have ob1 := Own.below O1.out (HWz.out)
            have k0 := World.ownsRow.cellAt ob1 0 (by omega)
            have k1 := World.ownsRow.cellAt ob1 1 (by omega)
            simp only [List.getElem?_cons_zero, List.getElem?_cons_succ] at k0 k1
            clear ob1
            have q0 := World.ownsRow.cellAt OQ9.out 0 (by omega)
            have q1 := World.ownsRow.cellAt OQ9.out 1 (by omega)
            have q2 := World.ownsRow.cellAt OQ9.out 2 (by omega)
            simp only [List.getElem?_cons_zero, List.getElem?_cons_succ] at q0 q1 q2
            have hwc := r8with_any (most := most) (G := (fun q => G q ∧ q ≠ w.heap.size + 1)) (fun q hq => ⟨HG.out q (by have h1 := HB.out.size; have h2 := HWz.out.size; omega), by have h1 := HZ2.out; have h2 := HWz.out.size; omega⟩) (((H0.out.nar (Nat.le_add_right _ 1)).below HB.out).below HWz.out) (by rw [← HPP.out]; exact HSRT.out) (by omega) ⟨nm, ⟨mq, l2⟩, A8, c8⟩ ⟨SX.out, GX.out⟩
            unfold With8P at hwc
            rw [← HPP.out] at hwc
            go_wp2_with fail
            refine hwc.mono ?_; rintro x w9 ⟨A9, n9, c9, es9, rfl, r9, e9, b9⟩
            have HW9 := Lib.hid (HWz.out.trans (b9.mono HWz.out.size))
            have R9 := Lib.hid r9
            have E9 := Lib.hid e9
            clear hwc r9 e9 b9 k0 k1 q0 q1 q2
            have or7 := Own.below OR.out (HW9.out)
            have f0 := World.ownsRow.frozenAt or7 0
            have f1 := World.ownsRow.frozenAt or7 1
            have m0 := World.ownsRow.cellAt or7 0 (by omega)
            have m1 := World.ownsRow.cellAt or7 1 (by omega)
            simp only [List.getElem?_cons_zero, List.getElem?_cons_succ] at m0 m1
            have Hst := Lib.hid (stored28 or7 (.int .i64 most) (.slice A9 n9 c9))
            clear or7
            go_wp2_with fail
            refine bodyPost_ret (results8_1 rfl _ _ _ ⟨w.heap.size + 1, 0, none⟩ rfl _ (load8R Hst.out.1)) rfl ?_
            have hbW := HB.out.trans (HW9.out.mono HB.out.size)
            rw [HE.out]
            exact ⟨A9, n9, c9, es9, rfl, R9.out.off Hst.out.2, E9.out, wrote8 hbW Hst.out.2 (by omega)⟩
          case false =>
            go_upto_region 10 with (at_builtin; refine wpList_app _ rfl _ _ 22 rfl w4.heap.size 3 (.int .i64 0) 1 8 Try.underlying22 infoInt rfl (by decide) none 0 0 [] rfl ha0 B l.length d (intsL l) rfl hsq (intsL_one l) (by unfold maxLen; omega) (by omega) (Nat.le_refl _) ?_; intro A6 c6 w6 hat6)
            have hat6 : AppTo w4.heap.size 3 1 w4 w6 none A6 l.length c6 (intsL l) := by rw [List.nil_append, Nat.zero_add] at hat6; exact hat6
            have b46 : Below w4.heap.size w4 w6 := (Below.refl _ _).grown hat6.grown (Nat.le_refl _) (fun k hk => rowOf_ge hk)
            have HW6 := Lib.hid (HW4.out.trans (b46.mono HW4.out.size))
            have OQ6 := Lib.hid (Own.below OQ.out b46)
            have hs7 := sl_one w6 (.int .i64 x) 3
            have hb7 := below_alloc1 w6 (.cells #[.int .i64 x] 3)
            have ha7 := hat6.app.below hb7
            have hz7 := hb7.size
            have hz6 := b46.size
            have hz67 := Nat.le_trans hz6 hz7
            have HW7 := Lib.hid (HW6.out.trans (hb7.mono HW6.out.size))
            have OQ7 := Lib.hid (Own.below OQ6.out hb7)
            have HBQ4 := Lib.hid (show bq < w4.heap.size from (own_lt8 OQ.out _ rfl).2)
            have HLies := Lib.hid (show ∀ a, A6 = some a → w4.heap.size ≤ a.block from fun a ha => by
              rcases hat6.lies a ha with ⟨a0, k1, k2⟩ | k1
              · cases k1
              · exact k1)
            clear ha0 hsq hat6 k0 k1 q0 q1 q2 hz7 hz6 b46
            have q2 := World.ownsRow.cellAt OQ6.out 2 (by omega)
            simp only [List.getElem?_cons_zero, List.getElem?_cons_succ] at q2
            go_upto_region 11 with (at_builtin; refine wpList_app _ rfl _ _ 22 rfl w4.heap.size 3 (.int .i64 0) 1 8 Try.underlying22 infoInt rfl (by decide) A6 l.length c6 (intsL l) rfl ha7 (some ⟨w6.heap.size, 0, none⟩) 1 1 [.int .i64 x] rfl hs7 (fun u hu => by simp at hu; subst hu; rfl) (by unfold maxLen; omega) (by omega) hz67 ?_; intro A8 c8 w8 hat8; have oq8 := own_row8 OQ7.out hat8.grown HBQ4.out; have z2 := World.ownsRow.frozenAt oq8 2; have y2 := World.ownsRow.cellAt oq8 2 (by omega); simp only [List.getElem?_cons_zero, List.getElem?_cons_succ] at y2)
            have st := World.ownsRow.stored oq8 2 (.slice A8 (l.length + 1) c8)
            have HW8 := Lib.hid (show Below w2.heap.size w2 w8 from HW7.out.grown hat8.grown HW7.out.size (fun k hk => by have h1 := rowOf_ge hk; have h2 := HW4.out.size; omega))
            have HL8 := Lib.hid (show ∀ a, A8 = some a → bq < a.block ∧ a.block < w8.heap.size from fun a ha => by
              refine ⟨?_, ?_⟩
              · rcases hat8.lies a ha with ⟨a0, k1, k2⟩ | k1
                · have h1 := HLies.out a0 k1; have h2 := HBQ4.out; omega
                · have h2 := HBQ4.out; simp at k1; have h3 := hz67; simp at h3; omega
              · obtain ⟨ad, h6, h7⟩ := hat8.app.sl.cells l.length (.int .i64 x) (by simp [intsL])
                rw [ha] at h6
                cases h6
                have h8 := World.block_lt_of_cell? _ _ h7
                rwa [add_block] at h8)
            obtain ⟨l2, hl2⟩ : ∃ l2, l2 = l ++ [x] := ⟨_, rfl⟩
            have HL2 := Lib.hid hl2
            have hlen : l.length + 1 = l2.length := by rw [hl2]; simp
            rw [← hl2] at HE
            have HSl := Lib.hid (show Sl w8 1 A8 l2.length c8 (intsL l2) from by
              rw [hl2]
              have h1 := hat8.app.sl
              rw [show intsL l ++ [Value.int .i64 x] = intsL (l ++ [x]) by simp [intsL]] at h1
              rw [List.length_append, List.length_singleton]
              exact h1)
            clear hat8 ha7 hs7 oq8 q2 hz67 hb7
            obtain ⟨wz, hwz⟩ : ∃ wz, wz = w8.setCell ⟨bq, 2, none⟩ (.slice A8 (l.length + 1) c8) := ⟨_, rfl⟩
            rw [← hwz] at st ⊢
            have OQ9 := Lib.hid st.1
            have HS9 := Lib.hid st.2
            clear hwz st z2 y2
            have HWz := Lib.hid (HW8.out.grown HS9.out HW8.out.size (fun k hk => by cases hk; exact HBQ.out))
            simp only [List.set_cons_zero, List.set_cons_succ] at OQ9
            have SX := Lib.hid (show Sl wz 1 A8 l2.length c8 (intsL l2) from sl_same HSl.out (fun a ha => HS9.out.block _ (HL8.out a ha).2 (fun e => by have h1 := (HL8.out a ha).1; have h2 := Option.some.inj e; omega)))
            have GX := Lib.hid (show RowG (fun q => G q ∧ q ≠ w.heap.size + 1) wz A8 (intsL l2) from fun _ a ha => by
              have h1 := (HL8.out a ha).1
              have h2 := HBQ.out
              have h3 := HZ2.out
              have h4 := HB.out.size
              exact ⟨Nat.lt_of_lt_of_le (HL8.out a ha).2 HS9.out.size, HG.out _ (by omega), by omega⟩)
            rw [hlen] at OQ9
            clear hlen hl2
            have ob1 := Own.below O1.out (HWz.out)
            have k0 := World.ownsRow.cellAt ob1 0 (by omega)
            have k1 := World.ownsRow.cellAt ob1 1 (by omega)
            simp only [List.getElem?_cons_zero, List.getElem?_cons_succ] at k0 k1
            clear ob1
            have q0 := World.ownsRow.cellAt OQ9.out 0 (by omega)
            have q1 := World.ownsRow.cellAt OQ9.out 1 (by omega)
            have q2 := World.ownsRow.cellAt OQ9.out 2 (by omega)
            simp only [List.getElem?_cons_zero, List.getElem?_cons_succ] at q0 q1 q2
            have hwc := r8with_any (most := most) (G := (fun q => G q ∧ q ≠ w.heap.size + 1)) (fun q hq => ⟨HG.out q (by have h1 := HB.out.size; have h2 := HWz.out.size; omega), by have h1 := HZ2.out; have h2 := HWz.out.size; omega⟩) (((H0.out.nar (Nat.le_add_right _ 1)).below HB.out).below HWz.out) (by rw [← HPP.out]; exact HSRT.out) (by omega) ⟨nm, ⟨mq, l2⟩, A8, c8⟩ ⟨SX.out, GX.out⟩
            unfold With8P at hwc
            rw [← HPP.out] at hwc
            go_wp2_with fail
            refine hwc.mono ?_; rintro x w9 ⟨A9, n9, c9, es9, rfl, r9, e9, b9⟩
            have HW9 := Lib.hid (HWz.out.trans (b9.mono HWz.out.size))
            have R9 := Lib.hid r9
            have E9 := Lib.hid e9
            clear hwc r9 e9 b9 k0 k1 q0 q1 q2
            have or7 := Own.below OR.out (HW9.out)
            have f0 := World.ownsRow.frozenAt or7 0
            have f1 := World.ownsRow.frozenAt or7 1
            have m0 := World.ownsRow.cellAt or7 0 (by omega)
            have m1 := World.ownsRow.cellAt or7 1 (by omega)
            simp only [List.getElem?_cons_zero, List.getElem?_cons_succ] at m0 m1
            have Hst := Lib.hid (stored28 or7 (.int .i64 most) (.slice A9 n9 c9))
            clear or7
            go_wp2_with fail
            refine bodyPost_ret (results8_1 rfl _ _ _ ⟨w.heap.size + 1, 0, none⟩ rfl _ (load8R Hst.out.1)) rfl ?_
            have hbW := HB.out.trans (HW9.out.mono HB.out.size)
            rw [HE.out]
            exact ⟨A9, n9, c9, es9, rfl, R9.out.off Hst.out.2, E9.out, wrote8 hbW Hst.out.2 (by omega)⟩
theorem posI_hit {l : List Int} {x : Int} {k : Nat} (h : ∀ j y, j < k → l[j]? = some y → y ≠ x) (hk : l[k]? = some x) : posI l x = some k := by
  obtain ⟨hlt, hv⟩ := List.getElem?_eq_some_iff.1 hk
  unfold posI
  rw [List.findIdx?_eq_some_iff_getElem]
  exact ⟨hlt, by simp [hv], fun j hj => by simpa using h j _ hj (List.getElem?_eq_getElem (by omega))⟩
theorem posI_miss {l : List Int} {x : Int} (h : ∀ j y, j < l.length → l[j]? = some y → y ≠ x) : posI l x = none := by
  unfold posI
  rw [List.findIdx?_eq_none_iff]
  intro y hy
  obtain ⟨j, hj⟩ := List.mem_iff_getElem?.1 hy
  simpa using h j y (List.getElem?_eq_some_iff.1 hj).1 hj
set_option maxRecDepth 100000 in
set_option maxHeartbeats 16000000 in
theorem r8Drop_any {G : Nat → Prop} (hG : ∀ q, w.heap.size ≤ q → G q) (hs : R8 G w A n c es) (hsrt : SrtP (es.map QE.p)) (hn : n ≤ 1000) (nm : Nm) (x : Int) (hll0 : (getQ (es.map QE.p) most nm).l.length ≤ 1000000) :
    Calls Try.prog 26 #[.agg #[.int .i64 most, .slice A n c], .string (bstr nm), .int .i64 x] w (Op8 G w most (drop8 (es.map QE.p) most nm x).1 (.bool (drop8 (es.map QE.p) most nm x).2)) := by
  have hln := slQE_len hs.sl
  obtain ⟨PP, hPP⟩ : ∃ PP, PP = es.map QE.p := ⟨_, rfl⟩
  have HPP := Lib.hid hPP
  rw [← hPP] at hsrt ⊢
  clear hPP
  have hb1 := below_alloc1 w (.cells #[.int .i64 most, .slice A n c] 39)
  have o1 := new_own w [.int .i64 most, .slice A n c] 39 2 rfl (by unfold maxLen; omega)
  obtain ⟨w1, hw1⟩ : ∃ w1, w1 = w.alloc (.cells #[.int .i64 most, .slice A n c] 39) := ⟨_, rfl⟩
  have hT1 : (w.alloc (.cells [Value.int .i64 most, .slice A n c].toArray 39)) = w1 := hw1.symm
  rw [hT1] at o1
  rw [← hw1] at hb1
  have hz1 : w1.heap.size = w.heap.size + 1 := by rw [hw1]; simp
  have hb2 := below_alloc1 w1 (.cells #[.int .i64 0, .slice none 0 0] 39)
  have o2 := new_own w1 [.int .i64 0, .slice none 0 0] 39 2 rfl (by unfold maxLen; omega)
  obtain ⟨w2, hw2⟩ : ∃ w2, w2 = w1.alloc (.cells #[.int .i64 0, .slice none 0 0] 39) := ⟨_, rfl⟩
  have hT2 : (w1.alloc (.cells [Value.int .i64 0, .slice none 0 0].toArray 39)) = w2 := hw2.symm
  rw [hT2, hz1] at o2
  rw [← hw2] at hb2
  have hz2 : w2.heap.size = w.heap.size + 2 := by rw [hw2]; simp [hz1]
  have eW : (w.alloc (.cells #[.int .i64 most, .slice A n c] 39)).alloc (.cells #[.int .i64 0, .slice none 0 0] 39) = w2 := by rw [hw2, hw1]
  have O1 := Lib.hid (Own.below o1 hb2)
  have OR := Lib.hid (Own.lower o2 (show w.heap.size ≤ w.heap.size + 1 by omega))
  have HB := Lib.hid (hb1.trans (hb2.mono hb1.size))
  have H0 := Lib.hid hs
  have HG := Lib.hid hG
  have HSRT := Lib.hid hsrt
  have HZ2 := Lib.hid hz2
  clear hb1 hb2 hw1 hw2 hT1 hT2 hz1 hz2 o1 o2 hs hG hsrt
  go_enter Try.func26, Try.ntmps26
  go_upto_region 1 with fail
  clear eW
  rw [← HPP.out] at hll0
  have ob1 := Own.below O1.out (Below.refl w2.heap.size w2)
  have k0 := World.ownsRow.cellAt ob1 0 (by omega)
  have k1 := World.ownsRow.cellAt ob1 1 (by omega)
  simp only [List.getElem?_cons_zero, List.getElem?_cons_succ] at k0 k1
  clear ob1
  obtain ⟨q0, hq0⟩ : ∃ q0, q0 = getQ PP most nm := ⟨_, rfl⟩
  obtain ⟨th, hth⟩ : ∃ th, th = (lk PP nm).isSome := ⟨_, rfl⟩
  have hoc := r8Of_any (G := (fun q => G q ∧ q ≠ w.heap.size + 1)) (most := most) (((H0.out.nar (Nat.le_add_right _ 1)).below HB.out).below (Below.refl w2.heap.size w2)) (by omega) nm
  unfold Of8P at hoc
  rw [← HPP.out, ← hq0, ← hth] at hoc
  have HQ0 := Lib.hid hq0
  have HTH := Lib.hid hth
  clear hq0 hth
  obtain ⟨mq, l⟩ := q0
  simp only at hoc
  go_wp2_with fail
  refine hoc.mono ?_; rintro x w3 ⟨B, d, rfl, sq, gq, b3⟩
  have HW3 := Lib.hid ((Below.refl w2.heap.size w2).trans (b3.mono (Below.refl w2.heap.size w2).size))
  have oq := new_own w3 [.string (bstr nm), .int .i64 mq, .slice B l.length d] 53 3 rfl (by unfold maxLen; omega)
  have hb4 := below_alloc1 w3 (.cells #[.string (bstr nm), .int .i64 mq, .slice B l.length d] 53)
  clear hoc k0 k1 b3
  go_upto_region 2 with fail
  obtain ⟨w4, hw4⟩ : ∃ w4, w4 = w3.alloc (.cells #[.string (bstr nm), .int .i64 mq, .slice B l.length d] 53) := ⟨_, rfl⟩
  have hT4 : (w3.alloc (.cells [Value.string (bstr nm), .int .i64 mq, .slice B l.length d].toArray 53)) = w4 := hw4.symm
  rw [hT4] at oq
  rw [← hw4] at hb4 ⊢
  obtain ⟨bq, hbq⟩ : ∃ bq, bq = w3.heap.size := ⟨_, rfl⟩
  rw [← hbq] at oq ⊢
  have HBQ := Lib.hid (show w2.heap.size ≤ bq by rw [hbq]; exact HW3.out.size)
  have HBL := Lib.hid (show w3.heap.size ≤ bq by rw [hbq]; exact Nat.le_refl _)
  have OQ := Lib.hid oq
  have HW4 := Lib.hid (HW3.out.trans (hb4.mono HW3.out.size))
  have SQ := Lib.hid (sq.below hb4)
  have GQ := Lib.hid (show RowG (fun q => G q ∧ q ≠ w.heap.size + 1) w4 B (intsL l) from gq.size hb4.size)
  have GL := Lib.hid (show intsL l ≠ [] → ∀ a, B = some a → a.block < bq from fun hne a ha => by rw [hbq]; exact (gq hne a ha).1)
  have hll := slI_len sq
  clear hw4 hT4 hbq oq sq gq hb4 HW3
  have hl6 : l.length ≤ 1000000 := by rw [← HQ0.out] at hll0; exact hll0
  clear hll0
  have HY : Hid (∀ k, posI l x = some k → drop8 PP most nm x = (withP PP most nm ⟨mq, l.take k ++ l.drop (k + 1)⟩, true)) := Lib.hid fun k hk => by unfold drop8; rw [← HQ0.out]; simp only [hk]
  have HN : Hid (posI l x = none → drop8 PP most nm x = (PP, false)) := Lib.hid fun hk => by unfold drop8; rw [← HQ0.out]; simp only [hk]
  go_wp2_with fail
  go_loopw [10] (fun s10 wx => ∃ (k : Nat), k ≤ l.length ∧ s10 = .int .i64 (k : Int) ∧ Hid (∀ j y, j < k → l[j]? = some y → y ≠ x) ∧ Hid (Below w4.heap.size w4 wx)) (fun iv _ => l.length - (intOf iv).toNat)
  case atStart => exact ⟨0, by omega, rfl, Lib.hid (fun j y h => by omega), Lib.hid (Below.refl _ _)⟩
  case round =>
    obtain ⟨k, hk, rfl, HM, HX⟩ := hrel
    have OQr := Lib.hid (Own.below OQ.out HX.out)
    have HWr := Lib.hid (HW4.out.trans (HX.out.mono HW4.out.size))
    have q0 := World.ownsRow.cellAt OQr.out 0 (by omega)
    have q1 := World.ownsRow.cellAt OQr.out 1 (by omega)
    have q2 := World.ownsRow.cellAt OQr.out 2 (by omega)
    simp only [List.getElem?_cons_zero, List.getElem?_cons_succ] at q0 q1 q2
    by_cases g1 : (k : Int) < (l.length : Int)
    · obtain ⟨y, hy⟩ : ∃ y, l[k]? = some y := ⟨_, List.getElem?_eq_getElem (by omega)⟩
      have SQr := Lib.hid (SQ.out.below HX.out)
      obtain ⟨ad, hB, hcy⟩ := slI_cell SQr.out hy
      subst hB
      have hin : (0 : Int) ≤ (k : Int) ∧ (k : Int) < (l.length : Int) := by omega
      by_cases hxy : y = x
      · subst hxy
        have HE0 := Lib.hid (HY.out k (posI_hit HM.out hy))
        have hct := cutT8 (some ad) l.length d k (k : Int) rfl (by have := SQr.out.le; omega)
        obtain ⟨AX, hAX, hbx, hAS⟩ := cutF8 (some ad) l.length d (k + 1) ((k : Int) + 1) (by omega) (by omega)
        have hsq1 := slI_take8 k hk SQr.out
        have HSD := Lib.hid hAS
        have ha0 := App.nil wr.heap.size 3 1 wr
        have HLN := Lib.hid hln
        have hk6 : k ≤ 1000000 := by omega
        clear hy hbx hAS hln
        go_upto_region 8 with (at_builtin; refine wpList_app _ rfl _ _ 22 rfl wr.heap.size 3 (.int .i64 0) 1 8 Try.underlying22 infoInt rfl (by decide) none 0 0 [] rfl ha0 (some ad) k d (intsL (l.take k)) rfl hsq1 (intsL_one _) (by unfold maxLen; omega) (by omega) (Nat.le_refl _) ?_; intro A6 c6 w6 hat6)
        have hat6 : AppTo wr.heap.size 3 1 wr w6 none A6 k c6 (intsL (l.take k)) := by rw [List.nil_append, Nat.zero_add] at hat6; exact hat6
        have b46 : Below wr.heap.size wr w6 := (Below.refl _ _).grown hat6.grown (Nat.le_refl _) (fun k hk => rowOf_ge hk)
        have HW6 := Lib.hid (HWr.out.trans (b46.mono HWr.out.size))
        have OQ6 := Lib.hid (Own.below OQr.out b46)
        have hsq2 := HSD.out w6 l (SQr.out.below b46)
        have ha7 := hat6.app
        have hz6 := b46.size
        have HBQ4 := Lib.hid (show bq < wr.heap.size from (own_lt8 OQr.out _ rfl).2)
        have HLies := Lib.hid (show ∀ a, A6 = some a → wr.heap.size ≤ a.block from fun a ha => by
          rcases hat6.lies a ha with ⟨a0, k1, k2⟩ | k1
          · cases k1
          · exact k1)
        clear ha0 hsq1 hat6 q0 q1 q2 b46 hct
        have q2 := World.ownsRow.cellAt OQ6.out 2 (by omega)
        simp only [List.getElem?_cons_zero, List.getElem?_cons_succ] at q2
        go_upto_region 9 with (at_builtin; refine wpList_app _ rfl _ _ 22 rfl wr.heap.size 3 (.int .i64 0) 1 8 Try.underlying22 infoInt rfl (by decide) A6 k c6 (intsL (l.take k)) rfl ha7 AX (l.length - (k + 1)) (d - (k + 1)) (intsL (l.drop (k + 1))) rfl hsq2 (intsL_one _) (by unfold maxLen; omega) (by omega) hz6 ?_; intro A8 c8 w8 hat8; have oq8 := own_row8 OQ6.out hat8.grown HBQ4.out; have z2 := World.ownsRow.frozenAt oq8 2; have y2 := World.ownsRow.cellAt oq8 2 (by omega); simp only [List.getElem?_cons_zero, List.getElem?_cons_succ] at y2)
        have st := World.ownsRow.stored oq8 2 (.slice A8 (k + (l.length - (k + 1))) c8)
        have HW8 := Lib.hid (show Below w2.heap.size w2 w8 from HW6.out.grown hat8.grown HW6.out.size (fun k hk => by have h1 := rowOf_ge hk; have h2 := HWr.out.size; omega))
        obtain ⟨l2, hl2⟩ : ∃ l2, l2 = l.take k ++ l.drop (k + 1) := ⟨_, rfl⟩
        have hlen : k + (l.length - (k + 1)) = l2.length := by rw [hl2]; simp; omega
        have HE := Lib.hid (show drop8 PP most nm y = (withP PP most nm ⟨mq, l2⟩, true) by rw [HE0.out, hl2])
        have HSl := Lib.hid (show Sl w8 1 A8 l2.length c8 (intsL l2) from by
          have h1 := hat8.app.sl
          rw [show intsL (l.take k) ++ intsL (l.drop (k + 1)) = intsL l2 by rw [hl2]; simp [intsL], hlen] at h1
          exact h1)
        have HL8 := Lib.hid (show intsL l2 ≠ [] → ∀ a, A8 = some a → bq < a.block ∧ a.block < w8.heap.size from fun hne a ha => by
          refine ⟨?_, ?_⟩
          · rcases hat8.lies a ha with ⟨a0, k1, k2⟩ | k1
            · have h1 := HLies.out a0 k1; have h2 := HBQ4.out; omega
            · have h2 := HBQ4.out; omega
          · obtain ⟨v, t, hv⟩ := List.exists_cons_of_ne_nil hne
            obtain ⟨ad2, h6, h7⟩ := HSl.out.cells 0 v (by rw [hv]; rfl)
            rw [ha] at h6
            cases h6
            have h8 := World.block_lt_of_cell? _ _ h7
            rwa [add_block] at h8)
        clear hat8 ha7 oq8 q2 hz6 hsq2
        obtain ⟨wz, hwz⟩ : ∃ wz, wz = w8.setCell ⟨bq, 2, none⟩ (.slice A8 (k + (l.length - (k + 1))) c8) := ⟨_, rfl⟩
        rw [← hwz] at st ⊢
        have OQ9 := Lib.hid st.1
        have HS9 := Lib.hid st.2
        clear hwz st z2 y2 hAX
        have HWz := Lib.hid (HW8.out.grown HS9.out HW8.out.size (fun k hk => by cases hk; exact HBQ.out))
        simp only [List.set_cons_zero, List.set_cons_succ] at OQ9
        rw [hlen] at OQ9
        clear hlen hl2 hcy hin
        have SX := Lib.hid (show Sl wz 1 A8 l2.length c8 (intsL l2) from sl_moved HSl.out (fun hne a ha => HS9.out.block _ (HL8.out hne a ha).2 (fun e => by have h1 := (HL8.out hne a ha).1; have h2 := Option.some.inj e; omega)))
        have GX := Lib.hid (show RowG (fun q => G q ∧ q ≠ w.heap.size + 1) wz A8 (intsL l2) from fun hne a ha => by
          have h1 := (HL8.out hne a ha).1
          have h2 := HBQ.out
          have h3 := HZ2.out
          have h4 := HB.out.size
          exact ⟨Nat.lt_of_lt_of_le (HL8.out hne a ha).2 HS9.out.size, HG.out _ (by omega), by omega⟩)
        have hln := HLN.out
        have ob1 := Own.below O1.out (HWz.out)
        have k0 := World.ownsRow.cellAt ob1 0 (by omega)
        have k1 := World.ownsRow.cellAt ob1 1 (by omega)
        simp only [List.getElem?_cons_zero, List.getElem?_cons_succ] at k0 k1
        clear ob1
        have q0 := World.ownsRow.cellAt OQ9.out 0 (by omega)
        have q1 := World.ownsRow.cellAt OQ9.out 1 (by omega)
        have q2 := World.ownsRow.cellAt OQ9.out 2 (by omega)
        simp only [List.getElem?_cons_zero, List.getElem?_cons_succ] at q0 q1 q2
        have hwc := r8with_any (most := most) (G := (fun q => G q ∧ q ≠ w.heap.size + 1)) (fun q hq => ⟨HG.out q (by have h1 := HB.out.size; have h2 := HWz.out.size; omega), by have h1 := HZ2.out; have h2 := HWz.out.size; omega⟩) (((H0.out.nar (Nat.le_add_right _ 1)).below HB.out).below HWz.out) (by rw [← HPP.out]; exact HSRT.out) (by omega) ⟨nm, ⟨mq, l2⟩, A8, c8⟩ ⟨SX.out, GX.out⟩
        unfold With8P at hwc
        rw [← HPP.out] at hwc
        go_wp2_with fail
        refine hwc.mono ?_; rintro x w9 ⟨A9, n9, c9, es9, rfl, r9, e9, b9⟩
        have HW9 := Lib.hid (HWz.out.trans (b9.mono HWz.out.size))
        have R9 := Lib.hid r9
        have E9 := Lib.hid e9
        clear hwc r9 e9 b9 k0 k1 q0 q1 q2
        have or7 := Own.below OR.out (HW9.out)
        have f0 := World.ownsRow.frozenAt or7 0
        have f1 := World.ownsRow.frozenAt or7 1
        have m0 := World.ownsRow.cellAt or7 0 (by omega)
        have m1 := World.ownsRow.cellAt or7 1 (by omega)
        simp only [List.getElem?_cons_zero, List.getElem?_cons_succ] at m0 m1
        have Hst := Lib.hid (stored28 or7 (.int .i64 most) (.slice A9 n9 c9))
        clear or7
        go_wp2_with fail
        refine bodyPost_ret (results8_1 rfl _ _ _ ⟨w.heap.size + 1, 0, none⟩ rfl _ (load8R Hst.out.1)) rfl ?_
        have hbW := HB.out.trans (HW9.out.mono HB.out.size)
        rw [HE.out]
        exact ⟨A9, n9, c9, es9, rfl, R9.out.off Hst.out.2, E9.out, wrote8 hbW Hst.out.2 (by omega)⟩
      · have hxb : (y == x) = false := by simpa using hxy
        have HXY := Lib.hid hxy
        have HYk := Lib.hid hy
        clear hxy hy
        go_wp2_with fail
        go_roundw
        case rel => exact ⟨k + 1, by omega, by go_num, Lib.hid (fun j z hj hz => by
          by_cases h : j = k
          · subst h
            rw [HYk.out] at hz
            cases hz
            exact HXY.out
          · exact HM.out j z (by omega) hz), HX⟩
        case measure => simp [intOf]; omega
    · obtain rfl : k = l.length := by omega
      have HE := Lib.hid (HN.out (posI_miss HM.out))
      have ob1 := Own.below O1.out (HWr.out)
      have k0 := World.ownsRow.cellAt ob1 0 (by omega)
      have k1 := World.ownsRow.cellAt ob1 1 (by omega)
      simp only [List.getElem?_cons_zero, List.getElem?_cons_succ] at k0 k1
      clear ob1
      have or7 := Own.below OR.out (HWr.out)
      have f0 := World.ownsRow.frozenAt or7 0
      have f1 := World.ownsRow.frozenAt or7 1
      have m0 := World.ownsRow.cellAt or7 0 (by omega)
      have m1 := World.ownsRow.cellAt or7 1 (by omega)
      simp only [List.getElem?_cons_zero, List.getElem?_cons_succ] at m0 m1
      have Hst := Lib.hid (stored28 or7 (.int .i64 most) (.slice A n c))
      clear or7
      go_wp2_with fail
      refine bodyPost_ret (results8_1 rfl _ _ _ ⟨w.heap.size + 1, 0, none⟩ rfl _ (load8R Hst.out.1)) rfl ?_
      have hbW := HB.out.trans ((HWr.out).mono HB.out.size)
      rw [HE.out]
      exact ⟨A, n, c, es, rfl, H0.out.past hbW Hst.out.2 (by omega), HPP.out.symm, wrote8 hbW Hst.out.2 (by omega)⟩
end
end Go.Proofs.Ytcidifmikcnkcaa
