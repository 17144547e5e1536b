import Derived.Test.YtbnifagmbhiblaaRefD
namespace Go.Proofs.Ytbnifagmbhiblaa
open Go.RowKit
set_option linter.unusedSimpArgs false
set_option linter.unusedVariables false

theorem infoBool : (Try.prog.info? 4).map (fun i => (i.zero, i.size, i.bytes)) = some (some (.bool false), 1, 1) := by kernel_rfl
theorem boolsV_congr (f g : Nat → Bool) (N : Nat) (h : ∀ j, j < N → f j = g j) : boolsV f N = boolsV g N := by
  unfold boolsV
  apply List.map_congr_left
  intro j hj
  rw [h j (by simpa using hj)]

set_option maxRecDepth 100000 in
set_option maxHeartbeats 2000000 in
theorem refCrc_any (A : Option Addr) (n c : Nat) (l : List UInt8) (w : World) (hs : Sl w 1 A n c (bytesV l)) (hn : n ≤ 1000000) :
    Calls Try.prog 36 #[.slice A n c] w fun e w' => e = .returned (.int .u32 ((crc l).toNat : Int)) ∧ Below w.heap.size w w' := by
  obtain ⟨i0, hi, hz0, hz1, hz2⟩ := info_parts infoBool
  have Hl := Lib.hid hs.blen
  obtain ⟨N, hN⟩ : ∃ N, N = 8 * n + 32 := ⟨_, rfl⟩
  have hNi : 8 * (n : Int) + 32 = (N : Int) := by omega
  have hNb : N ≤ 8000032 := by omega
  have HN := Lib.hid hN
  clear hN
  go_enter Try.func36, Try.ntmps36
  go_upto_block 0 with (at_make; refine wpList_make_full _ rfl _ _ 78 rfl w.heap.size 4 i0 (.bool false) 1 Try.underlying78 hi hz0 hz1 _ _ _ _ N rfl rfl (by omega) (by omega) (by rw [hz2]; omega) (by unfold maxLen; omega) (Nat.le_refl _) ?_; intro w1 hown1 hgrow1; have hb1 := grownBy_below hgrow1)
  have e0 : (madeCells (Value.bool false).cells (N * 1)).toList = boolsV (fun j => decide (j < 0) && allAt l 0 j) N := by
    rw [show (Value.bool false).cells = #[.bool false] from rfl, toList_madeCells_one, Nat.mul_one]
    unfold boolsV
    simp [List.map_const']
  rw [e0] at hown1
  clear hgrow1 e0 hi hz0 hz1 hz2 hNi
  go_cut [] (fun wx => wx.ownsRow w.heap.size 4 1 (.slice (some ⟨w.heap.size, 0, none⟩) N N) N (boolsV (allAt l 0) N) ∧ Below w.heap.size w wx)
  case first =>
    go_wp2_with fail
    go_loopw [4] (fun iv wx => ∃ i : Nat, i ≤ N ∧ iv = .int .i64 (i : Int) ∧ wx.ownsRow w.heap.size 4 1 (.slice (some ⟨w.heap.size, 0, none⟩) N N) N (boolsV (fun j => decide (j < i) && allAt l 0 j) N) ∧ Below w.heap.size w wx) (fun iv _ => N - (intOf iv).toNat)
    case atStart => exact ⟨0, by omega, rfl, hown1, hb1⟩
    case round =>
      obtain ⟨i, hiN, rfl, hown, hbx⟩ := hrel
      by_cases hlt : i < N
      · obtain ⟨z, hz⟩ : ∃ z, z = allAt l 0 i := ⟨_, rfl⟩
        have hcell := hown.cellAt i (by omega)
        rw [boolsV_at _ _ _ hlt] at hcell
        have hfro := hown.frozenAt i
        have hin : (0 : Int) ≤ (i : Int) ∧ (i : Int) < (N : Int) := by omega
        have hst := (World.ownsRow.stored (w := wr) (h := hown) i (.bool z)).1
        rw [boolsV_set] at hst
        rw [boolsV_congr _ (fun j => decide (j < i + 1) && allAt l 0 j) N (by
          intro j _
          by_cases hj : j = i
          · simp only [hj, if_true, hz]; simp
          · rw [if_neg hj, show decide (j < i) = decide (j < i + 1) by rw [Bool.eq_iff_iff, decide_eq_true_iff, decide_eq_true_iff]; omega])] at hst
        have hbd : Below w.heap.size w (wr.setCell ⟨w.heap.size, i, none⟩ (.bool z)) := hbx.setCell (Nat.le_refl _) _
        have Hz := Lib.hid hz
        have hsx := hs.below hbx
        clear hz hown hown1 hb1 hbx
        go_wp2_with fail
        refine (refBit_any _ _ _ l i _ hsx hn (by omega)).mono ?_; rintro e w2 ⟨rfl, rfl⟩
        rw [← Hz.out]
        go_wp2_with fail
        go_roundw
        case rel => exact ⟨i + 1, by omega, by go_num, hst, hbd⟩
        case measure => simp [intOf]; omega
      · obtain rfl : i = N := by omega
        go_wp2_with fail
        go_meet
        rw [boolsV_congr _ (allAt l 0) i (by intro j hj; simp [hj])] at hown
        exact ⟨hown, hbx⟩
  case rest =>
    obtain ⟨hown0, hb0⟩ := hcut
    clear hown1 hb1
    go_upto_block 2 with fail
    go_cut [] (fun wx => ∃ f, wx.ownsRow w.heap.size 4 1 (.slice (some ⟨w.heap.size, 0, none⟩) N N) N (boolsV f N) ∧ Hid (∀ j, 8 * n ≤ j → j < N → f j = allAt l (8 * n) j) ∧ Below w.heap.size w wx)
    case first =>
      go_wp2_with fail
      go_loopw [5] (fun iv wx => ∃ (i : Nat) (f : Nat → Bool), i ≤ 8 * n ∧ iv = .int .i64 (i : Int) ∧ wx.ownsRow w.heap.size 4 1 (.slice (some ⟨w.heap.size, 0, none⟩) N N) N (boolsV f N) ∧ Hid (∀ j, i ≤ j → j < N → f j = allAt l i j) ∧ Below w.heap.size w wx) (fun iv _ => 8 * n - (intOf iv).toNat)
      case atStart => exact ⟨0, allAt l 0, by omega, rfl, hown0, Lib.hid (fun j _ _ => rfl), hb0⟩
      case round =>
        obtain ⟨i, f, hi8, rfl, hown, Hf, hbx⟩ := hrel
        clear hown0 hb0
        by_cases hlt : i < 8 * n
        · have hiN : i < N := by have := HN.out; omega
          obtain ⟨z, hz⟩ : ∃ z, z = f i := ⟨_, rfl⟩
          have hcell := hown.cellAt i (by omega)
          rw [boolsV_at _ _ _ hiN, ← hz] at hcell
          have hza : z = allAt l i i := by rw [hz]; exact Hf.out i (Nat.le_refl _) hiN
          have hin : (0 : Int) ≤ (i : Int) ∧ (i : Int) < (N : Int) := by omega
          have Hza := Lib.hid hza
          clear hz hza
          cases z with
          | false =>
            go_wp2_with fail
            go_roundw
            case rel =>
              refine ⟨i + 1, f, by omega, by go_num, hown, Lib.hid (fun j hj hjN => ?_), hbx⟩
              rw [allAt_step l i j (by omega), ← Hza.out, Hf.out j (by omega) hjN]
              simp
            case measure => simp [intOf]; omega
          | true =>
            have hfro := hown.frozenAt i
            have hst := (World.ownsRow.stored (w := wr) (h := hown) i (.bool false)).1
            rw [boolsV_set] at hst
            have hbd : Below w.heap.size w (wr.setCell ⟨w.heap.size, i, none⟩ (.bool false)) := hbx.setCell (Nat.le_refl _) _
            clear hown hbx
            go_upto_block 4 with fail
            clear hcell hfro
            generalize wr.setCell ⟨w.heap.size, i, none⟩ (.bool false) = w3 at *
            have hst0 : w3.ownsRow w.heap.size 4 1 (.slice (some ⟨w.heap.size, 0, none⟩) N N) N (boolsV (fun j => if j = i then false else (f j ^^ (decide (i < j) && decide (j < i + 1 + 0) && polyB (j - (i + 1))))) N) := by
              rw [boolsV_congr _ (fun j => if j = i then false else f j) N (by
                intro j _
                by_cases hj : j = i
                · simp [hj]
                · have : (decide (i < j) && decide (j < i + 1 + 0)) = false := by simp; omega
                  simp only [if_neg hj, this]; simp)]
              exact hst
            clear hst
            go_wp2_with fail
            go_loopw [6] (fun kv wx => ∃ k : Nat, k ≤ 32 ∧ kv = .int .i64 (k : Int) ∧ wx.ownsRow w.heap.size 4 1 (.slice (some ⟨w.heap.size, 0, none⟩) N N) N (boolsV (fun j => if j = i then false else (f j ^^ (decide (i < j) && decide (j < i + 1 + k) && polyB (j - (i + 1))))) N) ∧ Below w.heap.size w wx) (fun kv _ => 32 - (intOf kv).toNat)
            case atStart => exact ⟨0, by omega, rfl, hst0, hbd⟩
            case round =>
              obtain ⟨k, hk, rfl, hown, hbx⟩ := hrel
              clear hst0 hbd
              by_cases hk32 : k < 32
              · obtain ⟨m, hm⟩ : ∃ m, m = 31 - k := ⟨_, rfl⟩
                have hmk : (31 : Int) - (k : Int) = (m : Int) := by omega
                have hm31 : m ≤ 31 := by omega
                obtain ⟨d, hd⟩ : ∃ d, d = 79764919 / 2 ^ m := ⟨_, rfl⟩
                have hsh : (79764919 : Int) / (2 : Int) ^ m = (d : Int) := by rw [hd]; simp
                have hdl : d ≤ 79764919 := by rw [hd]; exact Nat.div_le_self _ _
                obtain ⟨z, hz⟩ : ∃ z, z = polyB k := ⟨_, rfl⟩
                have hzd : ((d : Int) % 2 == 1) = z := by
                  rw [hz, ← polyB_eq k hk32, ← hm, ← hd, Bool.eq_iff_iff, beq_iff_eq, beq_iff_eq]; omega
                have hzd2 : ((d : Int).tmod 2 == 1) = z := by rw [Int.tmod_eq_emod_of_nonneg (by omega)]; exact hzd
                obtain ⟨p, hp⟩ : ∃ p, p = i + 1 + k := ⟨_, rfl⟩
                have hpN : p < N := by have := HN.out; omega
                have hw1 : IntKind.i64.wrap ((i : Int) + 1 + (k : Int)) = (i : Int) + 1 + (k : Int) := IntWalk.i64_in _ (by omega)
                have hnn : ((i : Int) + 1 + (k : Int)).toNat = p := by omega
                have hin2 : (0 : Int) ≤ (i : Int) + 1 + (k : Int) ∧ (i : Int) + 1 + (k : Int) < (N : Int) := by omega
                have hcell := hown.cellAt p (by omega)
                obtain ⟨y, hy⟩ : ∃ y, y = f p := ⟨_, rfl⟩
                rw [boolsV_at _ _ _ hpN] at hcell
                have hyv : (if p = i then false else (f p ^^ (decide (i < p) && decide (p < i + 1 + k) && polyB (p - (i + 1))))) = y := by
                  have : (decide (i < p) && decide (p < i + 1 + k)) = false := by simp; omega
                  simp only [if_neg (show p ≠ i by omega), this, hy]; simp
                rw [hyv] at hcell
                have hfro := hown.frozenAt p
                have Hz := Lib.hid hz
                have Hy := Lib.hid hy
                have Hp := Lib.hid hp
                clear hz hd hm hy hyv hp hin
                cases z with
                | false =>
                  rw [boolsV_congr _ (fun j => if j = i then false else (f j ^^ (decide (i < j) && decide (j < i + 1 + (k + 1)) && polyB (j - (i + 1))))) N (by
                    intro j _
                    by_cases hj : j = i
                    · simp [hj]
                    · by_cases hjp : j = p
                      · have h1 := Hp.out
                        have h2 : j - (i + 1) = k := by omega
                        have h3 := Hz.out
                        simp only [if_neg hj, h2, ← h3]; simp
                      · have h1 := Hp.out
                        have : decide (j < i + 1 + k) = decide (j < i + 1 + (k + 1)) := by rw [Bool.eq_iff_iff, decide_eq_true_iff, decide_eq_true_iff]; omega
                        simp only [if_neg hj, this])] at hown
                  go_wp2_with fail
                  go_roundw
                  case rel => exact ⟨k + 1, by omega, by go_num, hown, hbx⟩
                  case measure => simp [intOf]; omega
                | true =>
                  have hst := (World.ownsRow.stored (w := wr) (h := hown) p (.bool (!y))).1
                  rw [boolsV_set] at hst
                  rw [boolsV_congr _ (fun j => if j = i then false else (f j ^^ (decide (i < j) && decide (j < i + 1 + (k + 1)) && polyB (j - (i + 1))))) N (by
                    intro j _
                    have h1 := Hp.out
                    by_cases hjp : j = p
                    · rw [hjp]
                      have h2 : p - (i + 1) = k := by omega
                      have h3 := Hz.out
                      have h4 : (decide (i < p) && decide (p < i + 1 + (k + 1))) = true := by simp; omega
                      rw [if_pos rfl, if_neg (show p ≠ i by omega), h2, ← h3, h4, Hy.out]; simp
                    · rw [if_neg hjp]
                      by_cases hj : j = i
                      · simp [hj]
                      · have : decide (j < i + 1 + k) = decide (j < i + 1 + (k + 1)) := by rw [Bool.eq_iff_iff, decide_eq_true_iff, decide_eq_true_iff]; omega
                        simp only [if_neg hj, this])] at hst
                  have hbd : Below w.heap.size w (wr.setCell ⟨w.heap.size, p, none⟩ (.bool (!y))) := hbx.setCell (Nat.le_refl _) _
                  clear hown hbx
                  go_wp2_with fail
                  go_roundw
                  case rel => exact ⟨k + 1, by omega, by go_num, hst, hbd⟩
                  case measure => simp [intOf]; omega
              · obtain rfl : k = 32 := by omega
                go_wp2_with fail
                go_roundw
                case rel =>
                  refine ⟨i + 1, _, by omega, by go_num, hown, Lib.hid (fun j hj hjN => ?_), hbx⟩
                  rw [allAt_step l i j (by omega), ← Hza.out, if_neg (show j ≠ i by omega), Hf.out j (by omega) hjN, show decide (i < j) = true by simp; omega]
                  by_cases hjf : j < i + 1 + 32
                  · simp [hjf]
                  · simp [hjf, polyB_out (j - (i + 1)) (by omega)]
                case measure => simp [intOf]; omega
        · obtain rfl : i = 8 * n := by omega
          go_wp2_with fail
          go_meet
          exact ⟨f, hown, Hf, hbx⟩
    case rest =>
      obtain ⟨f, hown, Hf, hbx⟩ := hcut
      clear hown0 hb0
      have hN2 : 8 * n + 32 = N := HN.out.symm
      have HN2 := Lib.hid hN2
      clear hN2
      go_wp2_with fail
      go_loopw [7, 8] (fun nv kv wx => ∃ (k v : Nat) (j : Int), k ≤ 32 ∧ j + 1 = (k : Int) ∧ kv = .int .i64 j ∧ nv = .int .u32 (v : Int) ∧ Hid (v = (crc l).toNat / 2 ^ k) ∧ wx = wc) (fun _ kv _ => (intOf kv + 1).toNat)
      case atStart => exact ⟨32, 0, 31, by omega, by omega, rfl, rfl, Lib.hid (by rw [Nat.div_eq_of_lt (crc l).isLt]), rfl⟩
      case round =>
        obtain ⟨k, v, j, hk, hj, rfl, rfl, Hv, rfl⟩ := hrel
        by_cases hk0 : k = 0
        · subst hk0
          obtain rfl : j = -1 := by omega
          go_wp2_with fail
          go_ret
          exact ⟨by rw [Hv.out]; simp, hbx⟩
        · obtain ⟨i, rfl⟩ : ∃ i, k = i + 1 := ⟨k - 1, by omega⟩
          obtain rfl : j = (i : Int) := by omega
          have h1 := HN2.out
          obtain ⟨p, hp⟩ : ∃ p, p = 8 * n + i := ⟨_, rfl⟩
          have hcell := hown.cellAt p (by omega)
          rw [boolsV_at _ _ _ (by omega)] at hcell
          obtain ⟨y, hy⟩ : ∃ y, y = f p := ⟨_, rfl⟩
          rw [← hy] at hcell
          have hyc : (!y) = (crc l).getLsbD i := by
            rw [hy, Hf.out p (by omega) (by omega), hp, ← allAt_end l i (by omega), Hl.out]
          have hv2 : (crc l).toNat / 2 ^ i = 2 * v + (if (!y) = true then 1 else 0) := by rw [Hv.out, hyc]; exact crc_up _ _
          have hvl : (crc l).toNat / 2 ^ i < 4294967296 := Nat.lt_of_le_of_lt (Nat.div_le_self _ _) (crc l).isLt
          have hw1 : IntKind.i64.wrap (8 * (n : Int) + (i : Int)) = 8 * (n : Int) + (i : Int) := IntWalk.i64_in _ (by omega)
          have hnn : (8 * (n : Int) + (i : Int)).toNat = p := by omega
          have hin2 : (0 : Int) ≤ 8 * (n : Int) + (i : Int) ∧ 8 * (n : Int) + (i : Int) < (N : Int) := by omega
          rw [hv2] at hvl
          have Hv2 := Lib.hid hv2
          clear hv2 hyc hy hp hj
          cases y with
          | false =>
            have hvb : 2 * v + 1 < 4294967296 := by simpa using hvl
            clear hvl
            go_wp2_with fail
            go_roundw
            case rel => exact ⟨i, 2 * v + 1, (i : Int) - 1, by omega, by omega, by go_num, by go_num, Lib.hid (by rw [Hv2.out]; simp), by first | trivial | rfl⟩
            case measure => simp [intOf]
          | true =>
            have hvb : 2 * v < 4294967296 := by simpa using hvl
            clear hvl
            go_wp2_with fail
            go_roundw
            case rel => exact ⟨i, 2 * v, (i : Int) - 1, by omega, by omega, by go_num, by go_num, Lib.hid (by rw [Hv2.out]; simp), by first | trivial | rfl⟩
            case measure => simp [intOf]
end Go.Proofs.Ytbnifagmbhiblaa
