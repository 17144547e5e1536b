import Derived.Test.YtphjmbhlokkdiaaPureRef
import Derived.Test.YtphjmbhlokkdiaaLawRow
import Derived.Test.YtphjmbhlokkdiaaByteWalksE
import Derived.Deep.CutBlock
import Derived.Deep.DeepCutAuto
import Derived.StillTailTactics
import Derived.Laws.OwnMore
namespace Go.Proofs.Ytphjmbhlokkdiaa
open Go.RowKit
set_option linter.unusedSimpArgs false
set_option linter.unusedVariables false

/-- places 0 .. N-1 of yes and no -/
def boolsV (f : Nat → Bool) (N : Nat) : List Value := (List.range N).map fun j => .bool (f j)
theorem boolsV_set (f : Nat → Bool) (N k : Nat) (b : Bool) : (boolsV f N).set k (.bool b) = boolsV (fun j => if j = k then b else f j) N := by
  unfold boolsV
  rw [map_range_set]
  apply List.map_congr_left
  intro j _
  by_cases h : j = k <;> simp [h]
theorem boolsV_at (f : Nat → Bool) (N k : Nat) (h : k < N) : (boolsV f N)[k]? = some (.bool (f k)) := by unfold boolsV; simp [h]

theorem bits_new (w : World) : (w.alloc (.cells Try.zeroCells137 137)).ownsRow w.heap.size 137 1 (.slice (some ⟨w.heap.size, 0, none⟩) 70 70) 70 (boolsV (fun _ => false) 70) := by
  refine ⟨by simp [boolsV], .inr ⟨w.heap.size, 70, Try.zeroCells137, rfl, Nat.le_refl _, heap_alloc_new w _, by omega, by unfold maxLen; omega, by kernel_rfl, by kernel_rfl⟩⟩

set_option maxRecDepth 100000 in
set_option maxHeartbeats 1000000 in
theorem refVarint_any (n : Nat) (w : World) (hn : n < 18446744073709551616) :
    Calls Try.prog 93 #[.int .u64 (n : Int)] w fun e w' => ∃ A m c, e = .returned (.slice A m c) ∧
      App w.heap.size 5 1 w' A m c (bytesV (uv n)) ∧ Below w.heap.size w w' := by
  obtain ⟨i0, hi, hz0, hz1, hz2⟩ := info_parts infoByte
  have hnew := bits_new w
  have hbn := below_alloc1 w (.cells Try.zeroCells137 137)
  have Hn := Lib.hid hn
  clear hn
  go_enter Try.func93, Try.ntmps93
  go_upto_block 0 with fail
  generalize w.alloc (.cells Try.zeroCells137 137) = w0 at *
  go_cut [4] (fun s wx => s = .int .i64 ((hb n 64 : Nat) : Int) ∧ wx.ownsRow w.heap.size 137 1 (.slice (some ⟨w.heap.size, 0, none⟩) 70 70) 70 (boolsV (fun j => decide (j < 64) && (n / 2 ^ j % 2 == 1)) 70) ∧ Below w.heap.size w wx)
  case first =>
    go_wp2_with fail
    go_loopw [0, 4, 5] (fun nv hv iv wx => ∃ i h d : Nat, i ≤ 64 ∧ iv = .int .i64 (i : Int) ∧ hv = .int .i64 (h : Int) ∧ nv = .int .u64 (d : Int) ∧ Hid (h = hb n i) ∧ Hid (d = n / 2 ^ i) ∧ wx.ownsRow w.heap.size 137 1 (.slice (some ⟨w.heap.size, 0, none⟩) 70 70) 70 (boolsV (fun j => decide (j < i) && (n / 2 ^ j % 2 == 1)) 70) ∧ Below w.heap.size w wx) (fun _ _ iv _ => 64 - (intOf iv).toNat)
    case atStart => exact ⟨0, 0, n, by omega, rfl, rfl, rfl, Lib.hid rfl, Lib.hid (by simp), by simpa using hnew, hbn⟩
    case round =>
      obtain ⟨i, h, d, hi64, rfl, rfl, rfl, Hh, Hd, hown, hbx⟩ := hrel
      by_cases hlt : i < 64
      · have hcell := hown.cellAt i (by omega)
        have hfro := hown.frozenAt i
        have hin : (0 : Int) ≤ (i : Int) ∧ (i : Int) < 70 := by omega
        obtain ⟨z, hz⟩ : ∃ z, z = (n / 2 ^ i % 2 == 1) := ⟨_, rfl⟩
        have hzd : ((d : Int).tmod 2 == 1) = z := by
          rw [hz, Int.tmod_eq_emod_of_nonneg (by omega), ← Hd.out, Bool.eq_iff_iff, beq_iff_eq, beq_iff_eq]; omega
        have hzd2 : ((d : Int) % 2 == 1) = z := by
          rw [hz, ← Hd.out, Bool.eq_iff_iff, beq_iff_eq, beq_iff_eq]; omega
        have hdl : d < 18446744073709551616 := by rw [Hd.out]; exact Nat.lt_of_le_of_lt (Nat.div_le_self _ _) Hn.out
        have hst := World.ownsRow.stored (w := wr) (h := hown) i (.bool z)
        have hst1 := hst.1
        rw [boolsV_set] at hst1
        have hfun : (fun j => if j = i then z else decide (j < i) && (n / 2 ^ j % 2 == 1)) = (fun j => decide (j < i + 1) && (n / 2 ^ j % 2 == 1)) := by
          funext j
          by_cases hj : j = i
          · subst hj; rw [if_pos rfl, hz]; simp
          · rw [if_neg hj, show decide (j < i) = decide (j < i + 1) by rw [Bool.eq_iff_iff, decide_eq_true_iff, decide_eq_true_iff]; omega]
        rw [hfun] at hst1
        have hld := hst1.cellAt i (by omega)
        rw [boolsV_at _ _ _ (by omega)] at hld
        have hbz : Below w.heap.size w (wr.setCell ⟨w.heap.size, i, none⟩ (.bool z)) := hbx.setCell (Nat.le_refl _) _
        have hzi : (decide (i < i + 1) && (n / 2 ^ i % 2 == 1)) = z := by rw [hz]; simp
        rw [hzi] at hld
        have Hz := Lib.hid hz
        clear hz hst hfun hzi hown hbx hnew hbn
        rw [boolsV_at _ _ _ (by omega)] at hcell
        simp only [Nat.lt_irrefl, decide_false, Bool.false_and] at hcell
        cases z with
        | true =>
          have hh : Hid (i = hb n (i + 1)) := Lib.hid (by have := Hz.out; unfold hb; rw [if_pos (by simpa using this.symm)])
          go_wp2_with fail
          go_roundw
          case rel => exact ⟨i + 1, i, d / 2, by omega, by go_num, rfl, by first | rfl | go_num, hh, Lib.hid (by rw [Hd.out, Nat.pow_succ, Nat.div_div_eq_div_mul]), hst1, hbz⟩
          case measure => simp [intOf]; omega
        | false =>
          have hh : Hid (h = hb n (i + 1)) := Lib.hid (by have := Hz.out; unfold hb; rw [if_neg (by simpa using this.symm)]; exact Hh.out)
          go_wp2_with fail
          go_roundw
          case rel => exact ⟨i + 1, h, d / 2, by omega, by go_num, rfl, by first | rfl | go_num, hh, Lib.hid (by rw [Hd.out, Nat.pow_succ, Nat.div_div_eq_div_mul]), hst1, hbz⟩
          case measure => simp [intOf]; omega
      · obtain rfl : i = 64 := by omega
        go_wp2_with fail
        go_meet
        exact ⟨by rw [Hh.out], hown, hbx⟩
  case rest =>
    obtain ⟨rfl, hown, hbx⟩ := hcut
    obtain ⟨h, hh⟩ : ∃ h, h = hb n 64 := ⟨_, rfl⟩
    have hh64 : h < 64 := by rw [hh]; exact hb_lt n 64 (by omega)
    obtain ⟨sv1, sv2⟩ := sevens n Hn.out
    rw [← hh] at sv1 sv2 ⊢
    obtain ⟨s, hs⟩ : ∃ s, s = h / 7 := ⟨_, rfl⟩
    rw [← hs] at sv1 sv2
    have hs10 : s ≤ 9 := by omega
    have hq7 : (h : Int).tdiv 7 = (s : Int) := by rw [hs, Int.tdiv_eq_ediv_of_nonneg (by omega)]; omega
    have Hsv1 := Lib.hid sv1
    have Hsv2 := Lib.hid sv2
    have Hs := Lib.hid hs
    generalize wc = w1 at *
    have hbA := hbx
    have hbz := hbx.size
    have hbl : w.heap.size < w1.heap.size := (hown.lt w.heap.size rfl).2
    have hbit : ∀ j, j < 70 → w1.cell? ⟨w.heap.size, j, none⟩ = some (.bool (decide (j < 64) && (n / 2 ^ j % 2 == 1))) := fun j hj => by rw [hown.cellAt j (by omega), boolsV_at _ _ _ hj]
    have Hbit := Lib.hid hbit
    clear sv1 sv2 hh hs hnew hbn hbit hown
    go_upto_block 2 with (at_make; refine wpList_make_full _ rfl _ _ 27 rfl w1.heap.size 5 i0 (.int .u8 0) 1 Try.underlying27 hi hz0 hz1 _ _ _ _ (s + 1) rfl rfl (by omega) (by omega) (by rw [hz2]; omega) (by unfold maxLen; omega) (Nat.le_refl _) ?_; intro w2 hown2 hgrow2; have hb2 := grownBy_below hgrow2)
    have e0 : (madeCells (Value.int .u8 0).cells ((s + 1) * 1)).toList = bytesV (digs n 0 (s + 1)) := by
      rw [digs_zero, show (Value.int .u8 0).cells = #[.int .u8 0] from rfl, toList_madeCells_one, Nat.mul_one]
      unfold bytesV byteV
      simp
    rw [e0] at hown2
    clear hgrow2 e0 hq7 hh64 hi hz0 hz1 hz2
    go_cut [] (fun wx => wx.ownsRow w1.heap.size 5 1 (.slice (some ⟨w1.heap.size, 0, none⟩) (s + 1) (s + 1)) (s + 1) (bytesV (digs n (7 * (s + 1)) (s + 1))) ∧ Below w1.heap.size w1 wx)
    case first =>
      go_wp2_with fail
      go_loopw [8] (fun iv wx => ∃ i : Nat, i ≤ 7 * (s + 1) ∧ iv = .int .i64 (i : Int) ∧ wx.ownsRow w1.heap.size 5 1 (.slice (some ⟨w1.heap.size, 0, none⟩) (s + 1) (s + 1)) (s + 1) (bytesV (digs n i (s + 1))) ∧ Below w1.heap.size w1 wx) (fun iv _ => 7 * (s + 1) - (intOf iv).toNat)
      case atStart => exact ⟨0, by omega, rfl, hown2, hb2⟩
      case round =>
        obtain ⟨i, hi7, rfl, hown, hbx⟩ := hrel
        by_cases hlt : i < 7 * (s + 1)
        · have hin : (0 : Int) ≤ (i : Int) ∧ (i : Int) < 70 := by omega
          obtain ⟨z, hz⟩ : ∃ z, z = (decide (i < 64) && (n / 2 ^ i % 2 == 1)) := ⟨_, rfl⟩
          have hcb : wr.cell? ⟨w.heap.size, i, none⟩ = some (.bool z) := by
            rw [World.cell?_of_block (w := w1) (hbx.block _ hbl), Hbit.out i (by omega), hz]
          have Hz := Lib.hid hz
          clear hz hown2 hb2
          cases z with
          | false =>
            have hsk : digs n (i + 1) (s + 1) = digs n i (s + 1) := by
              apply digs_skip
              have h1 := Hz.out
              by_cases h64 : i < 64
              · simp [h64] at h1; omega
              · have h2 : n / 2 ^ i = 0 := Nat.div_eq_of_lt (Nat.lt_of_lt_of_le Hn.out (by
                  have := Nat.pow_le_pow_right (n := 2) (by omega) (show 64 ≤ i by omega)
                  have e : (2 : Nat) ^ 64 = 18446744073709551616 := by decide
                  omega))
                rw [h2]
            rw [← hsk] at hown
            clear hsk
            go_wp2_with fail
            go_roundw
            case rel => exact ⟨i + 1, by omega, by go_num, hown, hbx⟩
            case measure => simp [intOf]; omega
          | true =>
            obtain ⟨j, hj⟩ : ∃ j, j = i / 7 := ⟨_, rfl⟩
            obtain ⟨t, ht⟩ : ∃ t, t = i % 7 := ⟨_, rfl⟩
            obtain ⟨d, hd⟩ : ∃ d, d = dig n i j := ⟨_, rfl⟩
            have hdt : d < 2 ^ t := by rw [hd, hj, ht]; exact dig_small n i
            have ht6 : t ≤ 6 := by omega
            have hjs : j < s + 1 := by omega
            have hp : 2 ^ t ≤ 64 := by
              have := Nat.pow_le_pow_right (n := 2) (by omega) ht6
              simpa using this
            obtain ⟨p, hpp⟩ : ∃ p, p = 2 ^ t := ⟨_, rfl⟩
            rw [← hpp] at hdt hp
            have hcell := hown.cellAt j (by omega)
            have hfro := hown.frozenAt j
            have hdn : dig n (i + 1) j = d + p := by
              have h1 := Hz.out
              rw [hj, dig_step, hd, hj, hpp, ht]
              have : n / 2 ^ i % 2 = 1 := by simp at h1; omega
              rw [this, Nat.mul_one]
            have hx : (bytesV (digs n i (s + 1)))[j]? = some (.int .u8 (d : Int)) := by
              simp only [bytesV, List.getElem?_map, digs_at n i (s + 1) j hjs, Option.map_some, byteV, ← hd]
              rw [UInt8.toNat_ofNat', Nat.mod_eq_of_lt (by omega)]
            rw [hx] at hcell
            obtain ⟨v, hv⟩ : ∃ v, v = d + p := ⟨_, rfl⟩
            have hw8 : IntKind.u8.wrap ((2 : Int) ^ t) = (p : Int) := by
              rw [show ((2 : Int) ^ t) = ((p : Nat) : Int) by rw [hpp]; simp, IntKind.wrap_u8]; omega
            have hw9 : IntKind.u8.wrap ((d : Int) + (p : Int)) = (v : Int) := by rw [IntKind.wrap_u8]; omega
            have hst := (World.ownsRow.stored (w := wr.drew) (h := hown) j (.int .u8 (v : Int))).1
            have hset : (bytesV (digs n i (s + 1))).set j (.int .u8 (v : Int)) = bytesV (digs n (i + 1) (s + 1)) := by
              rw [← digs_set, ← hj, hdn, ← hv, bytesV, bytesV, List.map_set]
              congr 1
              unfold byteV
              rw [UInt8.toNat_ofNat', Nat.mod_eq_of_lt (by omega)]
            rw [hset] at hst
            have hq : (i : Int).tdiv 7 = (j : Int) := by rw [hj, Int.tdiv_eq_ediv_of_nonneg (by omega)]; omega
            have hm : (i : Int).tmod 7 = (t : Int) := by rw [ht, Int.tmod_eq_emod_of_nonneg (by omega)]; omega
            have hwj : IntKind.i64.wrap (j : Int) = (j : Int) := IntWalk.i64_in _ (by omega)
            have hwt : IntKind.i64.wrap (t : Int) = (t : Int) := IntWalk.i64_in _ (by omega)
            have hin2 : (0 : Int) ≤ (j : Int) ∧ (j : Int) < (s : Int) + 1 := by omega
            have Hpp := Lib.hid hpp
            clear hpp hj ht hd hx hset hdn
            go_wp2_with fail
            go_still_tail 13, (by kernel_rfl)
            change wpList _ _ _ _ _ wr.drew
            have hcell2 : wr.drew.cell? ⟨w1.heap.size, j, none⟩ = some (.int .u8 (d : Int)) := hcell
            have hfro2 : wr.drew.frozen? ⟨w1.heap.size, j, none⟩ = false := hfro
            have hbd : Below w1.heap.size w1 (wr.drew.setCell ⟨w1.heap.size, j, none⟩ (.int .u8 (v : Int))) := hbx.drew.setCell (Nat.le_refl _) _
            clear hcell hfro hown hbx hcb
            have Hv := Lib.hid hv
            clear hv
            generalize wr.drew = w3 at *
            go_wp2_with fail
            have hvi : (v : Int) = (d : Int) + (p : Int) := by have := Hv.out; omega
            rw [hvi] at hst hbd
            go_roundw
            case rel => exact ⟨i + 1, by omega, by go_num, hst, hbd⟩
            case measure => simp [intOf]; omega
        · obtain rfl : i = 7 * (s + 1) := by omega
          go_wp2_with fail
          go_meet
          exact ⟨hown, hbx⟩
    case rest =>
      obtain ⟨hown, hbx⟩ := hcut
      rw [digs_full] at hown
      go_upto_block 4 with fail
      go_cut [] (fun wx => wx.ownsRow w1.heap.size 5 1 (.slice (some ⟨w1.heap.size, 0, none⟩) (s + 1) (s + 1)) (s + 1) (bytesV (uv n)) ∧ Below w1.heap.size w1 wx)
      case first =>
        go_wp2_with fail
        go_loopw [9] (fun iv wx => ∃ k : Nat, k ≤ s ∧ iv = .int .i64 (k : Int) ∧ wx.ownsRow w1.heap.size 5 1 (.slice (some ⟨w1.heap.size, 0, none⟩) (s + 1) (s + 1)) (s + 1) (bytesV (marks n k (s + 1))) ∧ Below w1.heap.size w1 wx) (fun iv _ => s - (intOf iv).toNat)
        case atStart => exact ⟨0, by omega, rfl, hown, hbx⟩
        case round =>
          obtain ⟨k, hk, rfl, hown, hbx⟩ := hrel
          by_cases hlt : k < s
          · obtain ⟨d, hd⟩ : ∃ d, d = n / 128 ^ k % 128 := ⟨_, rfl⟩
            have hdl : d < 128 := by omega
            have hcell := hown.cellAt k (by omega)
            have hfro := hown.frozenAt k
            have hx : (bytesV (marks n k (s + 1)))[k]? = some (.int .u8 (d : Int)) := by
              simp only [bytesV, List.getElem?_map, marks_at n k (s + 1) k (by omega), Option.map_some, byteV, ← hd]
              rw [if_neg (by omega), UInt8.toNat_ofNat', Nat.mod_eq_of_lt (by omega), Nat.add_zero]
            rw [hx] at hcell
            obtain ⟨v, hv⟩ : ∃ v, v = d + 128 := ⟨_, rfl⟩
            have hst := (World.ownsRow.stored (w := wr) (h := hown) k (.int .u8 (v : Int))).1
            have hset : (bytesV (marks n k (s + 1))).set k (.int .u8 (v : Int)) = bytesV (marks n (k + 1) (s + 1)) := by
              rw [← marks_set n k (s + 1) (by omega), ← hd, ← hv, bytesV, bytesV, List.map_set]
              congr 1
              unfold byteV
              rw [UInt8.toNat_ofNat', Nat.mod_eq_of_lt (by omega)]
            rw [hset] at hst
            have hbd : Below w1.heap.size w1 (wr.setCell ⟨w1.heap.size, k, none⟩ (.int .u8 (v : Int))) := hbx.setCell (Nat.le_refl _) _
            have hin2 : (0 : Int) ≤ (k : Int) ∧ (k : Int) < (s : Int) + 1 := by omega
            have Hv := Lib.hid hv
            clear hv hset hx hd hown hbx
            go_wp2_with fail
            have hvi : (v : Int) = (d : Int) + 128 := by have := Hv.out; omega
            rw [hvi] at hst hbd
            go_roundw
            case rel => exact ⟨k + 1, by omega, by go_num, hst, hbd⟩
            case measure => simp [intOf]; omega
          · obtain rfl : k = s := by omega
            go_wp2_with fail
            go_meet
            rw [uv_marks (k + 1) n k (Nat.le_refl _) (by omega) Hsv1.out Hsv2.out] at hown
            exact ⟨hown, hbx⟩
      case rest =>
        obtain ⟨hown, hbx2⟩ := hcut
        go_wp2_with fail
        go_ret
        exact ⟨_, _, _, rfl, App.lower (.inl hown) hbz, hbA.trans (hbx2.mono hbz)⟩
end Go.Proofs.Ytphjmbhlokkdiaa
