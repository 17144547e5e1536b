import Derived.Test.YtcidifmikcnkcaaRingM
/- Rings: awake. -/
namespace Go.Proofs.Ytcidifmikcnkcaa
open Go.RowKit Go.Maps Go.WideShapes Go.WideMaps Go.Sort
set_option linter.unusedSimpArgs false
set_option linter.unusedVariables false

abbrev nA : Nm := [97]
theorem nA_len : nA.length ≤ maxLen := by unfold maxLen; decide
def qA (m : Int) (l : List Int) : List (Nm × Qu) := [(nA, ⟨m, l⟩)]
set_option maxRecDepth 100000 in
set_option maxHeartbeats 8000000 in
theorem awake8_any (W : World) : Calls Try.prog 20 #[] W fun e w' => e = .returned (.bool true) ∧ Below W.heap.size W w' := by
  go_enter Try.func20, Try.ntmps20
  go_wp2_with fail
  refine (New_any W 2).mono ?_; rintro e w0 ⟨hn, b0⟩
  rw [if_pos (by decide)] at hn
  obtain ⟨p, rfl, h0⟩ := hn
  go_wp2_with fail
  have hP0 : putR [] 2 nA 5 = (0, qA 2 [5]) := by rfl
  refine (Put_any h0 nA nA_len 5 (by decide)).mono ?_; rintro e w1 ⟨rfl, h1, c1⟩
  rw [hP0] at h1 ⊢
  have b1 := b0.trans c1
  go_wp2_with fail
  have hP1 : putR (qA 2 [5]) 2 nA 6 = (0, qA 2 [5, 6]) := by rfl
  refine (Put_any h1 nA nA_len 6 (by decide)).mono ?_; rintro e w2 ⟨rfl, h2, c2⟩
  rw [hP1] at h2 ⊢
  have b2 := b1.trans c2
  go_wp2_with fail
  have hP2 : putR (qA 2 [5, 6]) 2 nA 7 = (50, qA 2 [5, 6]) := by rfl
  refine (Put_any h2 nA nA_len 7 (by decide)).mono ?_; rintro e w3 ⟨rfl, h3, c3⟩
  rw [hP2] at h3 ⊢
  have b3 := b2.trans c3
  go_wp2_with fail
  have hP3 : takeR (qA 2 [5, 6]) 2 nA = qA 2 [6] := by rfl
  refine (takes_any h3 nA nA_len (by decide) 5 true (by rfl)).mono ?_; rintro e w4 ⟨rfl, h4, c4⟩
  rw [hP3] at h4
  have b4 := b3.trans c4
  go_wp2_with fail
  have hP4 : putR (qA 2 [6]) 2 nA 7 = (0, qA 2 [6, 7]) := by rfl
  refine (Put_any h4 nA nA_len 7 (by decide)).mono ?_; rintro e w5 ⟨rfl, h5, c5⟩
  rw [hP4] at h5 ⊢
  have b5 := b4.trans c5
  have bs := below_alloc1 w5 (.cells #[.int .i64 6, .int .i64 7] 3)
  have hs := sl_cells w5 [.int .i64 6, .int .i64 7] 3
  have h5 := h5.below bs
  have b5 := b5.trans (bs.mono b5.size)
  go_wp2_with fail
  refine (has_any h5 nA nA_len _ 2 2 [6, 7] hs rfl (by omega)).mono ?_; rintro e w6 ⟨rfl, c6⟩
  have h6 := h5.below c6
  have b6 := b5.trans (c6.mono b5.size)
  go_wp2_with fail
  refine (Room_any h6 nA nA_len).mono ?_; rintro e w7 ⟨rfl, c7⟩
  rw [show max ((getQ (qA 2 [6, 7]) 2 nA).most - ((getQ (qA 2 [6, 7]) 2 nA).l.length : Int)) 0 = 0 by rfl]
  have h7 := h6.below c7
  have b7 := b6.trans (c7.mono b6.size)
  go_wp2_with fail
  have hP7 : dropR (qA 2 [6, 7]) 2 nA 6 = (true, qA 2 [7]) := by rfl
  refine (Drop_any h7 nA nA_len 6 (by decide)).mono ?_; rintro e w8 ⟨rfl, h8, c8⟩
  rw [hP7] at h8 ⊢
  have b8 := b7.trans c8
  go_wp2_with fail
  have hP8 : capR (qA 2 [7]) 2 nA 1 = (0, qA 1 [7]) := by rfl
  refine (Cap_any h8 nA nA_len 1 (by decide)).mono ?_; rintro e w9 ⟨rfl, h9, c9⟩
  rw [hP8] at h9 ⊢
  have b9 := b8.trans c9
  go_wp2_with fail
  have hP9 : putR (qA 1 [7]) 2 nA 8 = (50, qA 1 [7]) := by rfl
  refine (Put_any h9 nA nA_len 8 (by decide)).mono ?_; rintro e w10 ⟨rfl, h10, c10⟩
  rw [hP9] at h10 ⊢
  have b10 := b9.trans c10
  go_wp2_with fail
  refine (Names_any h10 (by decide)).mono ?_; rintro e w11 ⟨AN, cN, rfl, sN, c11⟩
  rw [show heldN (qA 1 [7]) = [nA] by rfl] at sN ⊢
  rw [List.mergeSort_singleton] at sN
  have sN : Sl _ 1 AN 1 cN (strsL [nA]) := sN
  have h11 := h10.below c11
  have b11 := b10.trans (c11.mono b10.size)
  have bs2 := below_alloc1 w11 (.cells #[.string (bstr nA)] 9)
  have hs2 := sl_cells w11 [.string (bstr nA)] 9
  have h11 := h11.below bs2
  have sN := sN.below bs2
  have b11 := b11.trans (bs2.mono b11.size)
  go_wp2_with fail
  refine (sameTexts_any _ _ 1 _ 1 [nA] _ sN hs2 (by omega)).mono ?_; rintro e w12 ⟨rfl, c12⟩
  have h12 := h11.below c12
  have b12 := b11.trans (c12.mono b11.size)
  go_wp2_with fail
  have hP12 : takeR (qA 1 [7]) 2 nA = qA 1 [] := by rfl
  refine (takes_any h12 nA nA_len (by decide) 7 true (by rfl)).mono ?_; rintro e w13 ⟨rfl, h13, c13⟩
  rw [hP12] at h13
  have b13 := b12.trans c13
  go_wp2_with fail
  refine (Names_any h13 (by decide)).mono ?_; rintro e w14 ⟨AN2, cN2, rfl, sN2, c14⟩
  rw [show (heldN (qA 1 [])).length = 0 by rfl]
  have h14 := h13.below c14
  have b14 := b13.trans (c14.mono b13.size)
  go_wp2_with fail
  go_ret
  exact ⟨rfl, b14⟩
end Go.Proofs.Ytcidifmikcnkcaa
