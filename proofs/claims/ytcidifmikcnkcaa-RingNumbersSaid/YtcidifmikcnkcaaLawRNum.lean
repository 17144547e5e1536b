import Derived.Test.YtcidifmikcnkcaaPureRingNum
/- RingNumbers: the walk. -/
namespace Go.Proofs.Ytcidifmikcnkcaa
open Go.RowKit Go.Maps Go.WideShapes Go.WideMaps Go.Sort
set_option linter.unusedSimpArgs false
set_option linter.unusedVariables false

def nL : Nm := List.replicate 40 110
def nL1 : Nm := List.replicate 41 110
abbrev nE : Nm := []
abbrev nF : Nm := [255, 0]
theorem nL_len : nL.length ≤ maxLen := by unfold maxLen; decide
theorem nL1_len : nL1.length ≤ maxLen := by unfold maxLen; decide
theorem nE_len : nE.length ≤ maxLen := by unfold maxLen; decide
theorem nF_len : nF.length ≤ maxLen := by unfold maxLen; decide
theorem nA_ok : namedB nA = true := by rfl
def q1L : List (Nm × Qu) := [(nL, ⟨3, [1]⟩)]
def q2L : List (Nm × Qu) := [(nL, ⟨3, [1]⟩), (nF, ⟨3, [2]⟩)]
theorem rep_n (w : World) : Calls Try.prog 11 #[.string { data := #[110] }, .int .i64 40] w fun e w' => e = .returned (.string (bstr nL)) ∧ Below w.heap.size w w' :=
  (Try.strings_Repeat { data := #[110] } 40 w (by omega) (by show 1 * 40 ≤ _; omega)).mono fun e w' ⟨h1, h2⟩ => ⟨by rw [h1]; rfl, h2⟩
theorem cat_n : bstr nL ++ { data := #[110] } = bstr nL1 := bstr_cat nL [110]
theorem sort2 : (heldN q2L).mergeSort leB = [nL, nF] := by
  have h : heldN q2L = [nL, nF] := rfl
  rw [h]
  apply List.mergeSort_of_pairwise
  simp only [List.pairwise_cons, List.mem_singleton, List.not_mem_nil, false_imp_iff, implies_true, and_true, forall_eq, List.Pairwise.nil]
  rfl
theorem st0 : St nA 3 2 q2L ⟨3, []⟩ := ⟨by rfl, by rfl⟩
theorem range_snoc (k : Nat) : (List.range k).map (fun j : Nat => (j : Int)) ++ [(k : Int)] = (List.range (k + 1)).map (fun j : Nat => (j : Int)) := by rw [List.range_succ]; simp
theorem range_cons (k : Nat) : ∃ r, (List.range (k + 1)).map (fun j : Nat => (j : Int)) = 0 :: r ∧ r.length = k := by
  rw [List.range_succ_eq_map]
  exact ⟨_, rfl, by simp⟩
set_option maxRecDepth 100000 in
set_option maxHeartbeats 16000000 in
theorem walk_rnum (W : World) :
    Calls Try.prog 3 #[] W fun e w' => e = .returned (.bool true) ∧ Below W.heap.size W w' := by
  have b0 := below_alloc1 W (.cells #[.int .i64 0, .int .i64 (-1), .int .i64 65537] 3)
  have s0 := sl_cells W [.int .i64 0, .int .i64 (-1), .int .i64 65537] 3
  have HF : Hid (∀ wx i, Below (W.alloc (.cells #[.int .i64 0, .int .i64 (-1), .int .i64 65537] 3)).heap.size (W.alloc (.cells #[.int .i64 0, .int .i64 (-1), .int .i64 65537] 3)) wx → i < 3 → ∃ n : Int, wx.cell? ⟨W.heap.size, i, none⟩ = some (.int .i64 n) ∧ ¬ (1 ≤ n ∧ n ≤ 65536)) := Lib.hid (by
    intro wx i hb hi
    have key : ∀ j u, [Value.int .i64 0, .int .i64 (-1), .int .i64 65537][j]? = some u → wx.cell? ⟨W.heap.size, j, none⟩ = some u := by
      intro j u hj
      obtain ⟨a, h1, h2⟩ := (s0.below hb).cells j u hj
      cases h1
      rwa [add_plain] at h2
    have : i = 0 ∨ i = 1 ∨ i = 2 := by omega
    rcases this with rfl | rfl | rfl
    · exact ⟨_, key 0 _ rfl, by omega⟩
    · exact ⟨_, key 1 _ rfl, by omega⟩
    · exact ⟨_, key 2 _ rfl, by omega⟩)
  clear s0
  go_enter Try.func3, Try.ntmps3
  go_upto_block 0 with fail
  obtain ⟨W1, hW1⟩ : ∃ W1, W1 = W.alloc (.cells #[.int .i64 0, .int .i64 (-1), .int .i64 65537] 3) := ⟨_, rfl⟩
  rw [← hW1] at b0 HF ⊢
  clear hW1
  go_wp2_with fail
  go_loopw [19] (fun s19 wx => ∃ i : Nat, i ≤ 3 ∧ s19 = .int .i64 (i : Int) ∧ Below W1.heap.size W1 wx) (fun iv _ => 3 - (intOf iv).toNat)
  case atStart => exact ⟨0, by omega, rfl, Below.refl _ _⟩
  case round =>
    obtain ⟨i, hi, rfl, bx⟩ := hrel
    rename World => wx
    by_cases hi3 : i < 3
    · obtain ⟨n, hc, hn⟩ := HF.out _ _ bx hi3
      have hin : (0 : Int) ≤ (i : Int) ∧ (i : Int) < 3 := by omega
      have Hn := Lib.hid hn
      clear hn
      go_wp2_with fail
      refine (New_any wx n).mono ?_; rintro e w0 ⟨hnn, c0⟩
      rw [if_neg Hn.out] at hnn
      subst hnn
      have b1 := bx.trans (c0.mono bx.size)
      clear bx c0 hc
      go_wp2_with fail
      go_roundw
      case rel => exact ⟨i + 1, by omega, by go_num, b1⟩
      case measure => simp [intOf]; omega
    · obtain rfl : i = 3 := by omega
      have bA := b0.trans (bx.mono b0.size)
      clear HF bx b0
      go_wp2_with fail
      refine (New_any wx 3).mono ?_; rintro e w0 ⟨hn, c0⟩
      rw [if_pos (by decide)] at hn
      obtain ⟨p, rfl, h0⟩ := hn
      obtain ⟨wb, hwb⟩ : ∃ wb, wb = wx.heap.size := ⟨_, rfl⟩
      rw [← hwb] at h0
      have B0 := bA.trans (c0.mono bA.size)
      have hbase : W.heap.size ≤ wb := by rw [hwb]; exact bA.size
      clear hwb
      clear bA c0
      go_wp2_with fail
      refine (rep_n _).mono ?_; rintro e w1 ⟨rfl, c1⟩
      have h1 := h0.below c1
      have B1 := B0.trans (c1.mono B0.size)
      have hs1 : (bstr nL).size = 40 := rfl
      have hct := cat_n
      clear h0 B0 c1
      have hP2 : putR [] 3 nE 1 = (2, []) := by rfl
      go_wp2_with fail
      refine (Put_any h1 nE nE_len 1 (by decide)).mono ?_; rintro e w2 ⟨rfl, h2, c2⟩
      rw [hP2] at h2 ⊢
      have B2 := B1.trans (c2.mono hbase)
      clear h1 B1 c2 hP2
      have hP3 : putR [] 3 nL1 1 = (2, []) := by rfl
      go_wp2_with fail
      refine (Put_any h2 nL1 nL1_len 1 (by decide)).mono ?_; rintro e w3 ⟨rfl, h3, c3⟩
      rw [hP3] at h3 ⊢
      have B3 := B2.trans (c3.mono hbase)
      clear h2 B2 c3 hP3
      have hP4 : putR [] 3 nL 1 = (0, q1L) := by rfl
      go_wp2_with fail
      refine (Put_any h3 nL nL_len 1 (by decide)).mono ?_; rintro e w4 ⟨rfl, h4, c4⟩
      rw [hP4] at h4 ⊢
      have B4 := B3.trans (c4.mono hbase)
      clear h3 B3 c4 hP4
      have hP5 : putR q1L 3 nF 2 = (0, q2L) := by rfl
      go_wp2_with fail
      refine (Put_any h4 nF nF_len 2 (by decide)).mono ?_; rintro e w5 ⟨rfl, h5, c5⟩
      rw [hP5] at h5 ⊢
      have B5 := B4.trans (c5.mono hbase)
      clear h4 B4 c5 hP5
      have hP6 : capR q2L 3 nE 1 = (2, q2L) := by rfl
      go_wp2_with fail
      refine (Cap_any h5 nE nE_len 1 (by decide)).mono ?_; rintro e w6 ⟨rfl, h6, c6⟩
      rw [hP6] at h6 ⊢
      have B6 := B5.trans (c6.mono hbase)
      clear h5 B5 c6 hP6
      have hP7 : capR q2L 3 nA 0 = (2, q2L) := by rfl
      go_wp2_with fail
      refine (Cap_any h6 nA nA_len 0 (by decide)).mono ?_; rintro e w7 ⟨rfl, h7, c7⟩
      rw [hP7] at h7 ⊢
      have B7 := B6.trans (c7.mono hbase)
      clear h6 B6 c7 hP7
      have hP8 : capR q2L 3 nA 65537 = (2, q2L) := by rfl
      go_wp2_with fail
      refine (Cap_any h7 nA nA_len 65537 (by decide)).mono ?_; rintro e w8 ⟨rfl, h8, c8⟩
      rw [hP8] at h8 ⊢
      have B8 := B7.trans (c8.mono hbase)
      clear h7 B7 c8 hP8
      go_wp2_with fail
      refine (Room_any h8 nE nE_len).mono ?_; rintro e w9 ⟨rfl, c9⟩
      have h9 := h8.below c9
      have B9 := B8.trans (c9.mono B8.size)
      rw [show max ((getQ q2L 3 nE).most - ((getQ q2L 3 nE).l.length : Int)) 0 = 0 from rfl]
      clear h8 B8 c9
      go_wp2_with fail
      refine (Room_any h9 nA nA_len).mono ?_; rintro e w10 ⟨rfl, c10⟩
      have h10 := h9.below c10
      have B10 := B9.trans (c10.mono B9.size)
      rw [show max ((getQ q2L 3 nA).most - ((getQ q2L 3 nA).l.length : Int)) 0 = 3 from rfl]
      clear h9 B9 c10
      go_wp2_with fail
      refine (Names_any h10 (by decide)).mono ?_; rintro e w11 ⟨A9, c9, rfl, s9, c11⟩
      rw [sort2, show (heldN q2L).length = 2 from rfl] at s9
      rw [show (heldN q2L).length = 2 from rfl]
      have h11 := h10.below c11
      have B11 := B10.trans (c11.mono B10.size)
      have bn := below_alloc1 w11 (.cells #[.string (bstr nL), .string (bstr nF)] 9)
      have s9b := s9.below bn
      have sL := sl_cells w11 [.string (bstr nL), .string (bstr nF)] 9
      have h12 := h11.below bn
      have B12 := B11.trans (bn.mono B11.size)
      clear h10 B10 c11 h11 B11 bn s9
      go_wp2_with fail
      refine (sameTexts_any A9 _ 2 c9 2 [nL, nF] _ s9b sL (by omega)).mono ?_; rintro e w13 ⟨rfl, c13⟩
      have h13 := h12.below c13
      have B13 := B12.trans (c13.mono B12.size)
      clear h12 B12 c13 s9b sL hct hs1
      have HS0 := Lib.hid st0
      go_wp2_with fail
      go_loopw [9] (fun s9 wx => ∃ (k : Nat) (qs : List (Nm × Qu)), k ≤ 50 ∧ s9 = .int .i64 (k : Int) ∧ RIs wx wb p 3 qs ∧ Hid (St nA 3 2 qs ⟨3, []⟩) ∧ Below W.heap.size W wx) (fun iv _ => 50 - (intOf iv).toNat)
      case atStart => exact ⟨0, _, by omega, rfl, h13, HS0, B13⟩
      case round =>
        clear h13 B13 HS0
        obtain ⟨k, qs, hk, rfl, h1, HS, B1⟩ := hrel
        by_cases hk50 : (k : Int) < 50
        · have hS := HS.out
          have hneg : IntKind.i64.wrap (-(k : Int)) = -(k : Int) := by rw [IntKind.wrap_i64]; omega
          obtain ⟨e2, S2⟩ := hS.put h1.nodup nA_ok (by omega) (k : Int) (by simp)
          have E2 := Lib.hid e2
          have HS2 := Lib.hid S2
          have hl1 := hS.le
          clear e2 S2 hS HS
          go_wp2_with fail
          refine (Put_any h1 nA nA_len (k : Int) (by omega)).mono ?_; rintro e w2 ⟨rfl, h2, c2⟩
          rw [E2.out]
          generalize (putR qs 3 nA (k : Int)).2 = qs2 at *
          have B2 := B1.trans (c2.mono hbase)
          obtain ⟨e3, S3⟩ := HS2.out.put h2.nodup nA_ok (by omega) (-(k : Int)) (by simp)
          have E3 := Lib.hid e3
          have HS3 := Lib.hid S3
          have hl2 := HS2.out.le
          clear h1 B1 c2 e3 S3 HS2 E2
          go_wp2_with fail
          refine (Put_any h2 nA nA_len (-(k : Int)) (by omega)).mono ?_; rintro e w3 ⟨rfl, h3, c3⟩
          rw [E3.out]
          generalize (putR qs2 3 nA (-(k : Int))).2 = qs3 at *
          have B3 := B2.trans (c3.mono hbase)
          obtain ⟨e4, S4⟩ := HS3.out.take h3.nodup nA_ok
          have HS4 := Lib.hid S4
          have hl3 := HS3.out.le
          clear h2 B2 c3 S4 HS3 E3
          go_wp2_with fail
          refine (takes_any h3 nA nA_len (by omega) (k : Int) true e4).mono ?_; rintro e w4 ⟨rfl, h4, c4⟩
          have B4 := B3.trans (c4.mono hbase)
          clear e4
          generalize takeR qs3 3 nA = qs4 at *
          obtain ⟨e5, S5⟩ := HS4.out.take h4.nodup nA_ok
          have HS5 := Lib.hid S5
          have hl4 := HS4.out.le
          clear h3 B3 c4 S5 HS4
          go_wp2_with fail
          refine (takes_any h4 nA nA_len (by omega) (-(k : Int)) true e5).mono ?_; rintro e w5 ⟨rfl, h5, c5⟩
          have B5 := B4.trans (c5.mono hbase)
          clear h4 B4 c5 e5
          go_wp2_with fail
          go_roundw
          case rel => exact ⟨k + 1, _, by omega, by go_num, h5, HS5, B5⟩
          case measure => simp [intOf]; omega
        · obtain rfl : k = 50 := by omega
          obtain ⟨e2, S2⟩ := HS.out.cap h1.nodup nA_ok (by omega) (x := 65536) (by omega)
          have E2 := Lib.hid e2
          have HS2 := Lib.hid S2
          have hl1 := HS.out.le
          clear e2 S2 HS
          go_wp2_with fail
          refine (Cap_any h1 nA nA_len 65536 (by omega)).mono ?_; rintro e w2 ⟨rfl, h2, c2⟩
          rw [E2.out]
          generalize (capR qs 3 nA 65536).2 = qs2 at *
          have B2 := B1.trans (c2.mono hbase)
          clear h1 B1 c2 E2
          go_wp2_with fail
          go_loopw [10, 11] (fun s10 s11 wx => ∃ (k : Nat) (qs : List (Nm × Qu)), k ≤ 65536 ∧ s10 = .bool true ∧ s11 = .int .i64 (k : Int) ∧ RIs wx wb p 3 qs ∧ Hid (St nA 3 2 qs ⟨65536, (List.range k).map (fun j : Nat => (j : Int))⟩) ∧ Below W.heap.size W wx) (fun _ iv _ => 65536 - (intOf iv).toNat)
          case atStart => exact ⟨0, qs2, by omega, rfl, rfl, h2, HS2, B2⟩
          case round =>
            clear h2 B2 HS2
            obtain ⟨k, qs, hk, rfl, rfl, h1, HS, B1⟩ := hrel
            by_cases hkm : (k : Int) < 65536
            · obtain ⟨e2, S2⟩ := HS.out.put h1.nodup nA_ok (by omega) (k : Int) (by simp only [List.length_map, List.length_range]; omega)
              simp only [range_snoc] at S2
              have E2 := Lib.hid e2
              have HS2 := Lib.hid S2
              have hl1 := HS.out.le
              clear e2 S2 HS
              go_wp2_with fail
              refine (Put_any h1 nA nA_len (k : Int) (by omega)).mono ?_; rintro e w2 ⟨rfl, h2, c2⟩
              rw [E2.out]
              have B2 := B1.trans (c2.mono hbase)
              clear h1 B1 c2 E2
              go_wp2_with fail
              go_roundw
              case rel => exact ⟨k + 1, _, by omega, rfl, by go_num, h2, HS2, B2⟩
              case measure => simp [intOf]; omega
            · obtain rfl : k = 65536 := by omega
              obtain ⟨r, hr1, hr2⟩ := range_cons 65535
              rw [hr1] at HS
              have hr3 : ((0 :: r).length : Int) = 65536 := by simp only [List.length_cons, hr2]; rfl
              have hbu := HS.out.busy nA_ok 1 (by simp only [hr3]; omega)
              have hl1 := HS.out.le
              have HB := Lib.hid hbu
              have Hr := Lib.hid hr2
              have Hr3 := Lib.hid hr3
              clear hr1 hbu hr2 hr3
              go_wp2_with fail
              refine (Put_any h1 nA nA_len 1 (by omega)).mono ?_; rintro e w2 ⟨rfl, h2, c2⟩
              rw [HB.out] at h2 ⊢
              have B2 := B1.trans (c2.mono hbase)
              obtain ⟨e3, S3⟩ := HS.out.cap h2.nodup nA_ok (by omega) (x := 5) (by omega)
              have E3 := Lib.hid e3
              have HS3 := Lib.hid S3
              clear h1 B1 c2 e3 S3 HS HB
              go_wp2_with fail
              refine (Cap_any h2 nA nA_len 5 (by omega)).mono ?_; rintro e w3 ⟨rfl, h3, c3⟩
              rw [E3.out]
              generalize (capR qs 3 nA 5).2 = qs3 at *
              have B3 := B2.trans (c3.mono hbase)
              clear h2 B2 c3 E3
              go_wp2_with fail
              refine (Len_any h3 nA nA_len).mono ?_; rintro e w4 ⟨rfl, c4⟩
              rw [HS3.out.get]
              simp only [Hr3.out]
              have h4 := h3.below c4
              have B4 := B3.trans (c4.mono B3.size)
              clear h3 B3 c4
              go_wp2_with fail
              refine (Room_any h4 nA nA_len).mono ?_; rintro e w5 ⟨rfl, c5⟩
              rw [HS3.out.get]
              simp only [Hr3.out]
              rw [show max ((5 : Int) - 65536) 0 = 0 from rfl]
              have h5 := h4.below c5
              have B5 := B4.trans (c5.mono B4.size)
              obtain ⟨e6, S6⟩ := HS3.out.take h5.nodup nA_ok
              have HS6 := Lib.hid S6
              have hl5 := HS3.out.le
              clear h4 B4 c5 S6 HS3
              go_wp2_with fail
              refine (takes_any h5 nA nA_len (by omega) 0 true e6).mono ?_; rintro e w6 ⟨rfl, h6, c6⟩
              have B6 := B5.trans (c6.mono hbase)
              clear e6
              generalize takeR qs3 3 nA = qs6 at *
              have hb6 := HS6.out.busy nA_ok 1 (by simp only [Hr.out]; omega)
              have HB6 := Lib.hid hb6
              have hl6 := HS6.out.le
              clear h5 B5 c6 hb6 HS6
              go_wp2_with fail
              refine (Put_any h6 nA nA_len 1 (by omega)).mono ?_; rintro e w7 ⟨rfl, h7, c7⟩
              rw [HB6.out]
              have B7 := B6.trans (c7.mono hbase)
              clear h6 B6 c7 h7 HB6
              go_wp2_with fail
              refine (New_any w7 9).mono ?_; rintro e w8 ⟨hn, c8⟩
              rw [if_pos (by decide)] at hn
              obtain ⟨p8, rfl, h8⟩ := hn
              have B8 := B7.trans (c8.mono B7.size)
              obtain ⟨wc, hwc⟩ : ∃ wc, wc = w7.heap.size := ⟨_, rfl⟩
              rw [← hwc] at h8
              have hbc : W.heap.size ≤ wc := by rw [hwc]; exact B7.size
              clear hwc B7 c8
              go_wp2_with fail
              go_loopw [15] (fun s15 wx => ∃ (k : Nat) (qs : List (Nm × Qu)), k ≤ 1000 ∧ s15 = .int .i64 (k : Int) ∧ RIs wx wc p8 9 qs ∧ Hid (Thou k qs) ∧ Below W.heap.size W wx) (fun iv _ => 1000 - (intOf iv).toNat)
              case atStart => exact ⟨0, [], by omega, rfl, h8, Lib.hid Thou.zero, B8⟩
              case round =>
                clear h8 B8
                obtain ⟨k, qs, hk, rfl, h1, HT, B1⟩ := hrel
                by_cases hkt : (k : Int) < 1000
                · obtain ⟨qs2, hp2, T2⟩ := HT.out.put (by omega)
                  have HT2 := Lib.hid T2
                  have HP2 := Lib.hid hp2
                  have hl1 := HT.out.len
                  clear T2 hp2 HT
                  go_wp2_with fail
                  refine (name_any k (by omega) _).mono ?_; rintro e w2 ⟨rfl, c2⟩
                  have h2 := h1.below c2
                  have B2 := B1.trans (c2.mono B1.size)
                  clear h1 B1 c2
                  go_wp2_with fail
                  refine (Put_any h2 (nameN k) (nameN_maxLen (by omega)) (k : Int) (by omega)).mono ?_; rintro e w3 ⟨rfl, h3, c3⟩
                  rw [HP2.out] at h3 ⊢
                  have B3 := B2.trans (c3.mono hbc)
                  clear h2 B2 c3 HP2
                  go_wp2_with fail
                  go_roundw
                  case rel => exact ⟨k + 1, qs2, by omega, by go_num, h3, HT2, B3⟩
                  case measure => simp [intOf]; omega
                · obtain rfl : k = 1000 := by omega
                  have hl0 := HT.out.len
                  obtain ⟨t1, t2, t3, q2, t4, t5, t6, t7, q4, t8, t9, t10, t11⟩ := thousand HT.out h1.nodup
                  have T1 := Lib.hid t1
                  have T2 := Lib.hid t2
                  have T3 := Lib.hid t3
                  have T4 := Lib.hid t4
                  have T6 := Lib.hid t6
                  have T7 := Lib.hid t7
                  have T8 := Lib.hid t8
                  have T11 := Lib.hid t11
                  clear t1 t2 t3 t4 t6 t7 t8 t11 HT
                  go_wp2_with fail
                  refine (Put_any h1 nZ nZ_len 1 (by omega)).mono ?_; rintro e w2 ⟨rfl, h2, c2⟩
                  rw [T1.out] at h2 ⊢
                  have B2 := B1.trans (c2.mono hbc)
                  clear h1 B1 c2 T1
                  go_wp2_with fail
                  refine (Cap_any h2 nZ nZ_len 5 (by omega)).mono ?_; rintro e w3 ⟨rfl, h3, c3⟩
                  rw [T2.out] at h3 ⊢
                  have B3 := B2.trans (c3.mono hbc)
                  clear h2 B2 c3 T2
                  go_wp2_with fail
                  refine (Cap_any h3 nZ nZ_len 9 (by omega)).mono ?_; rintro e w4 ⟨rfl, h4, c4⟩
                  rw [T3.out] at h4 ⊢
                  have B4 := B3.trans (c4.mono hbc)
                  clear h3 B3 c4 T3
                  go_wp2_with fail
                  refine (name_any 7 (by omega) _).mono ?_; rintro e w5 ⟨rfl, c5⟩
                  have h5 := h4.below c5
                  have B5 := B4.trans (c5.mono B4.size)
                  clear h4 B4 c5
                  go_wp2_with fail
                  refine (Put_any h5 (nameN 7) (nameN_maxLen (by omega)) 1 (by omega)).mono ?_; rintro e w6 ⟨rfl, h6, c6⟩
                  rw [T4.out] at h6 ⊢
                  have B6 := B5.trans (c6.mono hbc)
                  clear h5 B5 c6 T4
                  go_wp2_with fail
                  refine (Names_any h6 (by omega)).mono ?_; rintro e w7 ⟨A9, c9, rfl, s9, c7⟩
                  rw [T6.out]
                  have h7 := h6.below c7
                  have B7 := B6.trans (c7.mono B6.size)
                  clear h6 B6 c7 s9 T6
                  go_wp2_with fail
                  refine (name_any 1 (by omega) _).mono ?_; rintro e w8 ⟨rfl, c8⟩
                  have h8 := h7.below c8
                  have B8 := B7.trans (c8.mono B7.size)
                  clear h7 B7 c8
                  go_wp2_with fail
                  refine (takes_any h8 (nameN 1) (nameN_maxLen (by omega)) (by omega) 1 true T7.out).mono ?_; rintro e w9 ⟨rfl, h9, c9⟩
                  have B9 := B8.trans (c9.mono hbc)
                  clear h8 B8 c9 T7
                  go_wp2_with fail
                  refine (Put_any h9 nZ nZ_len 1 (by omega)).mono ?_; rintro e w10 ⟨rfl, h10, c10⟩
                  rw [T8.out] at h10 ⊢
                  have B10 := B9.trans (c10.mono hbc)
                  clear h9 B9 c10 T8
                  go_wp2_with fail
                  refine (name_any 1 (by omega) _).mono ?_; rintro e w11 ⟨rfl, c11⟩
                  have h11 := h10.below c11
                  have B11 := B10.trans (c11.mono B10.size)
                  clear h10 B10 c11
                  go_wp2_with fail
                  refine (Cap_any h11 (nameN 1) (nameN_maxLen (by omega)) 5 (by omega)).mono ?_; rintro e w12 ⟨rfl, h12, c12⟩
                  rw [T11.out] at h12 ⊢
                  have B12 := B11.trans (c12.mono hbc)
                  clear h11 B11 c12 T11
                  go_wp2_with fail
                  refine (awake8_any _).mono ?_; rintro e w99 ⟨rfl, c99⟩
                  go_wp2_with fail
                  go_ret
                  exact ⟨rfl, B12.trans (c99.mono B12.size)⟩
end Go.Proofs.Ytcidifmikcnkcaa
