import Derived.Test.YtphjmbhlokkdiaaPureEv
/- Plain: what is read of any bytes as an event is right, and its bytes stand there. -/
namespace Go.Proofs.Ytphjmbhlokkdiaa
set_option linter.unusedSimpArgs false
set_option linter.unusedVariables false

theorem gu_piece {l : List UInt8} {a n q : Nat} (h : gu l (a : Int) = (n, q, 0)) : ∃ r, l.drop a = uv n ++ r ∧ l.drop q = r ∧ q = a + (uv n).length ∧ q ≤ l.length := by
  have hq := gu_next l (a : Int)
  rw [h] at hq
  simp only at hq
  have hle : a ≤ l.length := by
    apply Classical.byContradiction
    intro hn
    unfold gu at h
    rw [if_pos (.inr (by omega))] at h
    simp at h
  have hs := gu_shift (l.take a) (l.drop a) (a : Int) (by rw [List.length_take, Nat.min_eq_left hle])
  rw [List.take_append_drop, h] at hs
  have hlt : (l.take a).length = a := by rw [List.length_take, Nat.min_eq_left hle]
  by_cases h0 : (gu (l.drop a) 0).2.2 = 0
  · rw [if_pos h0] at hs
    simp only [Prod.mk.injEq, and_true] at hs
    obtain ⟨h1, h2⟩ := hs
    have hb := gu_back h0
    have hn := gu_next (l.drop a) 0
    obtain ⟨k, hk⟩ : ∃ k, k = (gu (l.drop a) 0).2.1 := ⟨_, rfl⟩
    rw [← hk] at h2 hb hn
    rw [← h1] at hb
    rw [hlt] at h2
    have hkl : (uv n).length = k := by rw [← hb, List.length_take, Nat.min_eq_left hn]
    refine ⟨(l.drop a).drop k, ?_, ?_, by omega, hq⟩
    · rw [← hb, List.take_append_drop]
    · rw [List.drop_drop, h2]
  · rw [if_neg h0] at hs
    exact absurd (by rw [← hs]) h0
theorem rdN_piece {l : List UInt8} {a b x q : Nat} (h : rdN l a b = (x, q, 0)) : b = 0 ∧ x ≤ 4611686018427387904 ∧ ∃ r, l.drop a = uv x ++ r ∧ l.drop q = r ∧ q = a + (uv x).length ∧ q ≤ l.length := by
  unfold rdN at h
  by_cases hb : b ≠ 0
  · rw [if_pos hb] at h; simp only [Prod.mk.injEq] at h; exact absurd h.2.2 hb
  rw [if_neg hb] at h
  obtain ⟨⟨n, q2, y⟩, hg⟩ : ∃ g, gu l (a : Int) = g := ⟨_, rfl⟩
  rw [hg] at h
  simp only at h
  by_cases h1 : y ≠ 0
  · rw [if_pos h1] at h; simp only [Prod.mk.injEq] at h; exact absurd h.2.2 h1
  rw [if_neg h1] at h
  by_cases h2 : 4611686018427387904 < n
  · rw [if_pos h2] at h; simp at h
  rw [if_neg h2] at h
  simp only [Prod.mk.injEq, and_true] at h
  obtain ⟨rfl, rfl⟩ := h
  obtain rfl : y = 0 := by omega
  exact ⟨by omega, by omega, gu_piece hg⟩
theorem rdI_piece {l : List UInt8} {a b q : Nat} {x : Int} (h : rdI l a b = (x, q, 0)) : b = 0 ∧ (-9223372036854775808 ≤ x ∧ x ≤ 9223372036854775807) ∧ ∃ r, l.drop a = uv (zz x) ++ r ∧ l.drop q = r ∧ q = a + (uv (zz x)).length ∧ q ≤ l.length := by
  unfold rdI at h
  by_cases hb : b ≠ 0
  · rw [if_pos hb] at h; simp only [Prod.mk.injEq] at h; exact absurd h.2.2 hb
  rw [if_neg hb, gi_of_gu] at h
  have hlt := gu_lt l (a : Int)
  obtain ⟨⟨n, q2, y⟩, hg⟩ : ∃ g, gu l (a : Int) = g := ⟨_, rfl⟩
  rw [hg] at h hlt
  simp only at h hlt
  by_cases h1 : y ≠ 0
  · rw [if_pos h1] at h; simp only [Prod.mk.injEq] at h; exact absurd h.2.2 h1
  rw [if_neg h1] at h
  simp only [Prod.mk.injEq, and_true] at h
  obtain ⟨rfl, rfl⟩ := h
  obtain rfl : y = 0 := by omega
  refine ⟨by omega, unzz_range n hlt, ?_⟩
  rw [zz_unzz]
  exact gu_piece hg
theorem rdS_piece {l : List UInt8} {a b q : Nat} {s : List UInt8} (h : rdS l a b = (s, q, 0)) : b = 0 ∧ ∃ r, l.drop a = uv s.length ++ (s ++ r) ∧ q = a + ((uv s.length).length + s.length) ∧ q ≤ l.length := by
  unfold rdS at h
  by_cases hb : b ≠ 0
  · rw [if_pos hb] at h; simp only [Prod.mk.injEq] at h; exact absurd h.2.2 hb
  rw [if_neg hb] at h
  refine ⟨by omega, ?_⟩
  unfold gb at h
  obtain ⟨⟨n, q2, y⟩, hg⟩ : ∃ g, gu l (a : Int) = g := ⟨_, rfl⟩
  rw [hg] at h
  simp only at h
  by_cases h1 : y ≠ 0
  · rw [if_pos h1] at h
    simp only at h
    by_cases h3 : y = 3
    · rw [if_pos h3] at h; simp at h
    · rw [if_neg h3, if_pos h1] at h; simp only [Prod.mk.injEq] at h; exact absurd h.2.2 h1
  rw [if_neg h1] at h
  obtain rfl : y = 0 := by omega
  by_cases h2 : (40 : Int) < 0 ∨ (40 : Int) < (n : Int)
  · rw [if_pos h2] at h; simp at h
  rw [if_neg h2] at h
  by_cases h3 : l.length - q2 < n
  · rw [if_pos h3] at h; simp at h
  rw [if_neg h3] at h
  simp only [Nat.reduceEqDiff, ne_eq, not_true_eq_false, if_false, Prod.mk.injEq, and_true] at h
  obtain ⟨hs, hq⟩ := h
  obtain ⟨r, e1, e2, e3, e4⟩ := gu_piece hg
  have hsl : s.length = n := by rw [← hs]; simp; omega
  refine ⟨r.drop n, ?_, by rw [hsl]; omega, by omega⟩
  rw [e1, hsl, ← hs, ← e2, List.take_append_drop]

/-- what is read as an event, written again, is what stood there -/
theorem rdE_back {l : List UInt8} {p q : Nat} {e : Ev} (h : rdE l p = (e, q, 0)) : e.ok ∧ rightB e = true ∧ q ≤ l.length ∧ q = p + (evB e).length ∧ (l.take q).drop p = evB e := by
  unfold rdE at h
  obtain ⟨⟨a, a1, a2⟩, ha⟩ : ∃ g, rdN l p 0 = g := ⟨_, rfl⟩
  simp only [ha] at h
  obtain ⟨⟨b, b1, b2⟩, hb⟩ : ∃ g, rdN l a1 a2 = g := ⟨_, rfl⟩
  simp only [hb] at h
  obtain ⟨⟨c, c1, c2⟩, hc⟩ : ∃ g, rdN l b1 b2 = g := ⟨_, rfl⟩
  simp only [hc] at h
  obtain ⟨⟨d, d1, d2⟩, hd⟩ : ∃ g, rdN l c1 c2 = g := ⟨_, rfl⟩
  simp only [hd] at h
  obtain ⟨⟨f, f1, f2⟩, hf⟩ : ∃ g, rdI l d1 d2 = g := ⟨_, rfl⟩
  simp only [hf] at h
  obtain ⟨⟨g, g1, g2⟩, hg⟩ : ∃ x, rdN l f1 f2 = x := ⟨_, rfl⟩
  simp only [hg] at h
  obtain ⟨⟨s, s1, s2⟩, hs⟩ : ∃ x, rdS l g1 g2 = x := ⟨_, rfl⟩
  simp only [hs] at h
  by_cases h1 : s2 ≠ 0
  · rw [if_pos h1] at h; simp only [Prod.mk.injEq] at h; exact absurd h.2.2 h1
  rw [if_neg h1] at h
  obtain rfl : s2 = 0 := by omega
  by_cases h2 : 255 < a
  · rw [if_pos h2] at h; simp at h
  rw [if_neg h2] at h
  by_cases h3 : rightB ⟨a, (b : Nat), (c : Nat), (d : Nat), f, (g : Nat), s⟩ = false
  · rw [if_pos h3] at h; simp at h
  rw [if_neg h3] at h
  simp only [Prod.mk.injEq, and_true] at h
  obtain ⟨rfl, rfl⟩ := h
  obtain ⟨rfl, r7, k7, q7, l7⟩ := rdS_piece hs
  obtain ⟨rfl, m6, r6, k6, j6, q6, l6⟩ := rdN_piece hg
  obtain ⟨rfl, m5, r5, k5, j5, q5, l5⟩ := rdI_piece hf
  obtain ⟨rfl, m4, r4, k4, j4, q4, l4⟩ := rdN_piece hd
  obtain ⟨rfl, m3, r3, k3, j3, q3, l3⟩ := rdN_piece hc
  obtain ⟨rfl, m2, r2, k2, j2, q2, l2⟩ := rdN_piece hb
  obtain ⟨_, m1, r1, k1, j1, q1, l1⟩ := rdN_piece ha
  rw [j1] at k2; rw [j2] at k3; rw [j3] at k4; rw [j4] at k5; rw [j5] at k6; rw [j6] at k7
  have hE := evB_parts ⟨a, (b : Nat), (c : Nat), (d : Nat), f, (g : Nat), s⟩
  simp only [Int.toNat_natCast] at hE
  have hall : l.drop p = evB ⟨a, (b : Nat), (c : Nat), (d : Nat), f, (g : Nat), s⟩ ++ r7 := by
    rw [k1, k2, k3, k4, k5, k6, k7, hE]
    simp only [List.append_assoc]
  have hq : s1 = p + (evB ⟨a, (b : Nat), (c : Nat), (d : Nat), f, (g : Nat), s⟩).length := by
    rw [hE]
    simp only [List.length_append]
    omega
  refine ⟨⟨by simp only; omega, by simp only; omega, by simp only; omega, by simp only; omega, m5, by simp only; omega⟩, by simpa using h3, l7, hq, ?_⟩
  rw [List.drop_take, hall, hq, Nat.add_sub_cancel_left, List.take_left]
theorem rdE_err (l : List UInt8) (p : Nat) {e : Ev} {q x : Nat} (h : rdE l p = (e, q, x)) (hx : x ≠ 0) : e = Ev.zero ∧ q = 0 := by
  unfold rdE at h
  obtain ⟨⟨a, a1, a2⟩, ha⟩ : ∃ g, rdN l p 0 = g := ⟨_, rfl⟩
  simp only [ha] at h
  obtain ⟨⟨b, b1, b2⟩, hb⟩ : ∃ g, rdN l a1 a2 = g := ⟨_, rfl⟩
  simp only [hb] at h
  obtain ⟨⟨c, c1, c2⟩, hc⟩ : ∃ g, rdN l b1 b2 = g := ⟨_, rfl⟩
  simp only [hc] at h
  obtain ⟨⟨d, d1, d2⟩, hd⟩ : ∃ g, rdN l c1 c2 = g := ⟨_, rfl⟩
  simp only [hd] at h
  obtain ⟨⟨f, f1, f2⟩, hf⟩ : ∃ g, rdI l d1 d2 = g := ⟨_, rfl⟩
  simp only [hf] at h
  obtain ⟨⟨g, g1, g2⟩, hg⟩ : ∃ x, rdN l f1 f2 = x := ⟨_, rfl⟩
  simp only [hg] at h
  obtain ⟨⟨s, s1, s2⟩, hs⟩ : ∃ x, rdS l g1 g2 = x := ⟨_, rfl⟩
  simp only [hs] at h
  by_cases h1 : s2 ≠ 0
  · rw [if_pos h1] at h; simp only [Prod.mk.injEq] at h; exact ⟨h.1.symm, h.2.1.symm⟩
  rw [if_neg h1] at h
  by_cases h2 : 255 < a
  · rw [if_pos h2] at h; simp only [Prod.mk.injEq] at h; exact ⟨h.1.symm, h.2.1.symm⟩
  rw [if_neg h2] at h
  by_cases h3 : rightB ⟨a, (b : Nat), (c : Nat), (d : Nat), f, (g : Nat), s⟩ = false
  · rw [if_pos h3] at h; simp only [Prod.mk.injEq] at h; exact ⟨h.1.symm, h.2.1.symm⟩
  rw [if_neg h3] at h
  simp only [Prod.mk.injEq] at h
  exact absurd h.2.2.symm hx
end Go.Proofs.Ytphjmbhlokkdiaa
