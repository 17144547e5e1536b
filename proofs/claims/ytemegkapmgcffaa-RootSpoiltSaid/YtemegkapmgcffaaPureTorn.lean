import Derived.Test.YtemegkapmgcffaaMFr
/- Plain mathematics: of a frame that is cut, with noughts behind, none is read. -/
namespace Go.Proofs.Ytemegkapmgcffaa
set_option linter.unusedSimpArgs false

theorem gu_shift (pre r : List UInt8) (a : Int) (ha : a = (pre.length : Int)) : gu (pre ++ r) a = (if (gu r 0).2.2 = 0 then ((gu r 0).1, pre.length + (gu r 0).2.1, 0) else gu r 0) := by
  subst ha
  have e1 : gu (pre ++ r) (pre.length : Int) = (if (guL 0 r 0).2.2 = 0 then ((guL 0 r 0).1, pre.length + (guL 0 r 0).2.1, 0) else (0, 0, (guL 0 r 0).2.2)) := by
    unfold gu
    rw [if_neg (by rw [List.length_append]; omega)]
    simp only [Int.toNat_natCast, List.drop_left]
  have e2 : gu r 0 = (if (guL 0 r 0).2.2 = 0 then ((guL 0 r 0).1, (guL 0 r 0).2.1, 0) else (0, 0, (guL 0 r 0).2.2)) := by
    unfold gu
    rw [if_neg (by simp)]
    simp only [Int.toNat_zero, List.drop_zero, Nat.zero_add]
  rw [e1, e2]
  by_cases h : (guL 0 r 0).2.2 = 0
  · simp [h]
  · simp [h]
/-- what is read behind a begin is what is read without it -/
theorem fg_shift (pre r : List UInt8) (a : Int) (ha : a = (pre.length : Int)) : (fg (pre ++ r) a).2.2 = (fg r 0).2.2 := by
  unfold fg
  rw [gu_shift pre r a ha]
  by_cases h : (gu r 0).2.2 = 0
  · rw [if_pos h]
    simp only
    rw [if_neg (by simp), if_neg (show ¬ (gu r 0).2.2 ≠ 0 by simpa using h)]
    obtain ⟨k, hk⟩ : ∃ k, k = (gu r 0).1 := ⟨_, rfl⟩
    obtain ⟨f, hf⟩ : ∃ f, f = (gu r 0).2.1 := ⟨_, rfl⟩
    rw [← hk, ← hf]
    by_cases h1 : k = 0 ∨ 1048576 < k
    · rw [if_pos h1, if_pos h1]
    · rw [if_neg h1, if_neg h1]
      by_cases h2 : r.length < f + k + 5
      · rw [if_pos (by rw [List.length_append]; omega), if_pos h2]
      · rw [if_neg (by rw [List.length_append]; omega), if_neg h2]
        have e1 : (pre ++ r)[pre.length + f + k + 4]? = r[f + k + 4]? := by
          rw [List.getElem?_append_right (by omega)]; congr 1; omega
        have e2 : (pre ++ r).drop (pre.length + f + k) = r.drop (f + k) := by
          rw [show pre.length + f + k = pre.length + (f + k) by omega, ← List.drop_drop, List.drop_left]
        have e3 : ((pre ++ r).take (pre.length + f + k)).drop (pre.length + f) = (r.take (f + k)).drop f := by
          rw [show pre.length + f + k = pre.length + (f + k) by omega, List.take_append, List.take_of_length_le (by omega), ← List.drop_drop, List.drop_left, Nat.add_sub_cancel_left]
        rw [e1, e2, e3]
        by_cases h3 : r[f + k + 4]? ≠ some 165
        · rw [if_pos h3, if_pos h3]
        · rw [if_neg h3, if_neg h3]
          by_cases h4 : (r.drop (f + k)).take 4 ≠ crc4 (crc ((r.take (f + k)).drop f))
          · rw [if_pos h4, if_pos h4]
          · rw [if_neg h4, if_neg h4]
  · rw [if_neg h, if_pos (show (gu r 0).2.2 ≠ 0 by simpa using h), if_pos (show (gu r 0).2.2 ≠ 0 by simpa using h)]
theorem frm_apart' {a b : List UInt8} (ha0 : 0 < a.length) (ha : a.length ≤ 1048576) (hb0 : 0 < b.length) (hb : b.length ≤ 1048576) (n : Nat) (h1 : (frm a).length ≤ n) (h : (frm a).take n = (frm b).take n) : a = b := by
  rw [List.take_of_length_le h1] at h
  have e1 := fg_frm [] a ((frm b).drop n) 0 rfl ha0 ha
  have e2 := fg_frm [] b [] 0 rfl hb0 hb
  rw [h] at e1
  simp only [List.nil_append, List.take_append_drop, List.append_nil] at e1 e2
  rw [e2] at e1
  simp only [Prod.mk.injEq] at e1
  exact e1.1.symm
theorem frm_last (b : List UInt8) : (frm b)[(frm b).length - 1]? = some 165 := by
  have e : frm b = (uv b.length ++ (b ++ crc4 (crc b))) ++ [165] := by simp [frm]
  rw [e]
  generalize uv b.length ++ (b ++ crc4 (crc b)) = L
  simp
/-- what is cut, with noughts behind, is no frame -/
theorem fg_cut (b : List UInt8) (j z : Nat) (h0 : 0 < b.length) (h1 : b.length ≤ 1048576) (hj : j < (frm b).length) : (fg ((frm b).take j ++ List.replicate z 0) 0).2.2 ≠ 0 := by
  intro h
  obtain ⟨⟨x, nx, er⟩, hg⟩ : ∃ g, fg ((frm b).take j ++ List.replicate z 0) 0 = g := ⟨_, rfl⟩
  rw [hg] at h
  simp only at h
  subst h
  obtain ⟨x0, x1, x2, x3⟩ := fg_back hg
  have hnx : (frm x).length = nx := by rw [x3, List.length_take]; omega
  have hpos : 0 < nx := by rw [← hnx, frm_len]; omega
  have hlast := frm_last x
  rw [hnx] at hlast
  have hjn : nx ≤ j := by
    apply Classical.byContradiction
    intro hn
    rw [x3, List.getElem?_take, if_pos (by omega), List.getElem?_append_right (by rw [List.length_take]; omega)] at hlast
    have := List.mem_of_getElem? hlast
    rw [List.mem_replicate] at this
    exact absurd this.2 (by decide)
  have e : (frm x).take nx = (frm b).take nx := by
    rw [x3, List.take_take, Nat.min_self, List.take_append_of_le_length (by rw [List.length_take]; omega), List.take_take, Nat.min_eq_left hjn]
  have hx : x = b := frm_apart' x0 x1 h0 h1 nx (by omega) e
  rw [← hx, hnx] at hj
  omega
theorem fg_noughts (z : Nat) : (fg (List.replicate z 0) 0).2.2 ≠ 0 := by
  have h := fg_cut [0] 0 z (by simp) (by simp) (by rw [frm_len]; simp)
  simpa using h
end Go.Proofs.Ytemegkapmgcffaa
