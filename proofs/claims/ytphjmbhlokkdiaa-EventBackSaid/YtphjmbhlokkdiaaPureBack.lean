import Derived.Test.YtphjmbhlokkdiaaPureFrame
/- Plain mathematics: what is read as a number, or as a frame, is what would be written. -/
namespace Go.Proofs.Ytphjmbhlokkdiaa
set_option linter.unusedSimpArgs false

theorem guL_back (s : List UInt8) : ∀ k acc, k ≤ 9 → (guL k s acc).2.2 = 0 → ∃ m, (0 < k → m ≠ 0) ∧ (guL k s acc).1 = acc + m * 128 ^ k ∧ s.take ((guL k s acc).2.1 - k) = uv m ∧ k < (guL k s acc).2.1 := by
  induction s with
  | nil => intro k acc _ h; simp [guL] at h
  | cons x r ih =>
    intro k acc hk h
    have hx := x.toNat_lt
    rw [guL] at h ⊢
    by_cases h1 : (k = 9 ∧ 1 < x.toNat) ∨ (x.toNat = 0 ∧ 0 < k)
    · rw [if_pos h1] at h; simp at h
    · rw [if_neg h1] at h ⊢
      by_cases h2 : x.toNat < 128
      · rw [if_pos h2]
        refine ⟨x.toNat, fun h3 h4 => h1 (.inr ⟨h4, h3⟩), rfl, ?_, by simp⟩
        rw [uv_small _ h2]
        simp
      · rw [if_neg h2] at h ⊢
        have hk9 : k + 1 ≤ 9 := by
          apply Classical.byContradiction; intro hn
          exact h1 (.inl ⟨by omega, by omega⟩)
        obtain ⟨m, hm0, hm1, hm2, hm3⟩ := ih (k + 1) _ hk9 h
        have hm := hm0 (by omega)
        refine ⟨(x.toNat - 128) + 128 * m, fun _ => by omega, ?_, ?_, by omega⟩
        · rw [hm1, Nat.pow_succ, Nat.add_mul, Nat.add_assoc]
          congr 2
          rw [Nat.mul_comm 128 m, Nat.mul_assoc, Nat.mul_comm 128]
        · obtain ⟨q, hq⟩ : ∃ q, q = (guL (k + 1) r (acc + (x.toNat - 128) * 128 ^ k)).2.1 := ⟨_, rfl⟩
          rw [← hq] at hm2 hm3 ⊢
          rw [show q - k = (q - (k + 1)) + 1 by omega, List.take_succ_cons, hm2, uv_big ((x.toNat - 128) + 128 * m) (by omega)]
          congr 1
          · apply UInt8.toNat_inj.1
            rw [UInt8.toNat_ofNat']; omega
          · congr 1; omega

theorem gu_back {l : List UInt8} (h : (gu l 0).2.2 = 0) : l.take (gu l 0).2.1 = uv (gu l 0).1 := by
  unfold gu at h ⊢
  rw [if_neg (by omega)] at h ⊢
  simp only [Int.toNat_zero, List.drop_zero, Nat.zero_add] at h ⊢
  by_cases h0 : (guL 0 l 0).2.2 = 0
  · rw [if_pos h0]
    obtain ⟨m, _, h1, h2, _⟩ := guL_back l 0 0 (by omega) h0
    simp only [Nat.sub_zero, Nat.pow_zero, Nat.mul_one, Nat.zero_add] at h1 h2
    simp only
    rw [h1, h2]
  · rw [if_neg h0] at h
    exact absurd h h0

theorem fg_back {l b : List UInt8} {nx : Nat} (h : fg l 0 = (b, nx, 0)) : 0 < b.length ∧ b.length ≤ 1048576 ∧ nx ≤ l.length ∧ frm b = l.take nx := by
  have hnx := gu_next l 0
  have hgb := gu_back (l := l)
  unfold fg at h
  obtain ⟨⟨k, fr, er⟩, hg⟩ : ∃ g, g = gu l 0 := ⟨_, rfl⟩
  rw [← hg] at h hnx hgb
  simp only at h hnx hgb
  by_cases he : er ≠ 0
  · rw [if_pos he] at h; simp only [Prod.mk.injEq] at h; exact absurd h.2.2 he
  rw [if_neg he] at h
  by_cases hk : k = 0 ∨ 1048576 < k
  · rw [if_pos hk] at h; simp at h
  rw [if_neg hk] at h
  by_cases hl : l.length < fr + k + 5
  · rw [if_pos hl] at h; simp at h
  rw [if_neg hl] at h
  by_cases h165 : l[fr + k + 4]? ≠ some 165
  · rw [if_pos h165] at h; simp at h
  rw [if_neg h165] at h
  by_cases hc : (l.drop (fr + k)).take 4 ≠ crc4 (crc ((l.take (fr + k)).drop fr))
  · rw [if_pos hc] at h; simp at h
  rw [if_neg hc] at h
  simp only [Prod.mk.injEq, and_true] at h
  obtain ⟨hb, rfl⟩ := h
  rw [hb] at hc
  have he0 : er = 0 := by omega
  have hbl : b.length = k := by rw [← hb]; simp; omega
  have hgb := hgb he0
  have hc := Decidable.not_not.1 hc
  have h165 := Decidable.not_not.1 h165
  refine ⟨by omega, by omega, by omega, ?_⟩
  rw [frm, hbl, ← hgb, ← hc]
  have e1 : l.take (fr + k + 5) = l.take fr ++ ((l.drop fr).take k ++ ((l.drop (fr + k)).take 4 ++ (l.drop (fr + k + 4)).take 1)) := by
    rw [show fr + k + 5 = fr + (k + (4 + 1)) by omega, List.take_add, List.take_add, List.take_add, List.drop_drop, List.drop_drop]
  have e2 : (l.drop fr).take k = b := by
    rw [← hb, List.drop_take, Nat.add_sub_cancel_left]
  have e3 : (l.drop (fr + k + 4)).take 1 = [165] := by
    have := List.getElem?_eq_some_iff.1 h165
    obtain ⟨h1, h2⟩ := this
    rw [List.drop_eq_getElem_cons h1, h2]; rfl
  rw [e1, e2, e3]
end Go.Proofs.Ytphjmbhlokkdiaa
