import Derived.Test.YtbnifagmbhiblaaLawRow
import Derived.Test.YtbnifagmbhiblaaPureSeen
import Derived.Deep.CutBlock
import Derived.Deep.DeepCutAuto
import Derived.StillTailTactics
namespace Go.Proofs.Ytbnifagmbhiblaa
open Go.RowKit
set_option linter.unusedSimpArgs false
set_option linter.unusedVariables false

theorem bit_at (c : BitVec 32) (i : Nat) : Go.bits .and .u32 ((c.toNat : Int) / 2 ^ i) 1 = if c.getLsbD i then 1 else 0 := by
  have e : (c.toNat : Int) / 2 ^ i = ((c >>> i).toNat : Int) := by
    simp [Nat.shiftRight_eq_div_pow]
  rw [e, bits_and1]
  simp

set_option maxRecDepth 100000 in
set_option maxHeartbeats 2000000 in
theorem walk_seen (B : Option Addr) (n p : Nat) (b : List UInt8) (at_ : Nat) (change check : BitVec 32) (sl : Nat) (w : World) (hs : Sl w 1 B n p (bytesV b)) (hat : at_ < 65536) (hsl : sl < 256) :
    Calls Try.prog 6 #[.slice B n p, .int .u16 (at_ : Int), .int .u32 (change.toNat : Int), .int .u32 (check.toNat : Int), .int .u8 (sl : Int)] w fun e w' => e = .returned (.bool true) ∧ Below w.heap.size w w' := by
  by_cases h0 : n = 0
  · subst h0
    go_enter Try.func6, Try.ntmps6
    go_wp2_with (go_at_call 21; refine (awake_any _).mono ?_; rintro e w6 ⟨rfl, hn6⟩)
    go_ret
    exact ⟨rfl, hn6⟩
  by_cases h1 : 300 < n
  · have h0b : ((n : Int) == 0) = false := by simp; omega
    go_enter Try.func6, Try.ntmps6
    go_wp2_with (go_at_call 21; refine (awake_any _).mono ?_; rintro e w6 ⟨rfl, hn6⟩)
    go_ret
    exact ⟨rfl, hn6⟩
  have h0b : ((n : Int) == 0) = false := by simp; omega
  obtain ⟨fr, hfr⟩ : ∃ fr, fr = at_ % (8 * n) := ⟨_, rfl⟩
  have hfrl : fr < 8 * n := by rw [hfr]; exact Nat.mod_lt _ (by omega)
  have hfz : ¬ 8 * (n : Int) = 0 := by omega
  have hfm : (at_ : Int).tmod (8 * (n : Int)) = (fr : Int) := by
    rw [hfr, Int.tmod_eq_emod_of_nonneg (by omega)]; simp
  have Hbl := Lib.hid hs.blen
  have H0 := Lib.hid h0
  have H1 := Lib.hid h1
  clear h0 hfr
  go_enter Try.func6, Try.ntmps6
  go_upto_block 0 with (go_at_call 24; refine (copyBytes_any _ _ _ b _ hs (by omega)).mono ?_; rintro e w1 ⟨rfl, hown, hb1⟩)
  clear hfm h0b hfz
  go_cut [] (fun wx => ∃ i xs, Seen b fr change i xs ∧ wx.ownsRow w.heap.size 5 1 (.slice (some ⟨w.heap.size, 0, none⟩) n n) n (bytesV xs) ∧ Below w.heap.size w wx)
  case first =>
    go_wp2_with fail
    go_loopw [13] (fun iv wx => ∃ i xs, i ≤ 32 ∧ iv = .int .i64 (i : Nat) ∧ Seen b fr change i xs ∧ wx.ownsRow w.heap.size 5 1 (.slice (some ⟨w.heap.size, 0, none⟩) n n) n (bytesV xs) ∧ Below w.heap.size w wx) (fun iv _ => 32 - (intOf iv).toNat)
    case atStart => exact ⟨0, b, by omega, rfl, seen_zero _ _ _, hown, hb1⟩
    case round =>
      obtain ⟨i, xs, hi, rfl, hseen, hownx, hbx⟩ := hrel
      have Hseen := Lib.hid hseen
      clear hseen hown hb1
      by_cases hlt : i < 32
      · by_cases hf : fr + i < 8 * n
        · by_cases hbit : change.getLsbD i = true
          · have hb := bit_at change i
            rw [if_pos hbit] at hb
            obtain ⟨k, hk⟩ : ∃ k, k = (fr + i) / 8 := ⟨_, rfl⟩
            obtain ⟨j, hj⟩ : ∃ j, j = (fr + i) % 8 := ⟨_, rfl⟩
            have hkn : k < n := by omega
            have hjn : j < 8 := by omega
            have hq : ((fr : Int) + (i : Int)).tdiv 8 = (k : Int) := by rw [Int.tdiv_eq_ediv_of_nonneg (by omega)]; omega
            have hr : ((fr : Int) + (i : Int)).tmod 8 = (j : Int) := by rw [Int.tmod_eq_emod_of_nonneg (by omega)]; omega
            obtain ⟨x, hx⟩ := get_some xs k (by rw [Hseen.out.1, Hbl.out]; exact hkn)
            have hcell : wr.cell? ⟨w.heap.size, k, none⟩ = some (.int .u8 (x.toNat : Int)) := by rw [hownx.cellAt k (by omega)]; simp [bytesV, byteV, hx]
            have hfro := hownx.frozenAt k
            have hw1 : IntKind.i64.wrap ((fr : Int) + (i : Int)) = (fr : Int) + (i : Int) := IntWalk.i64_in _ (by omega)
            have hw2 : IntKind.i64.wrap (k : Int) = (k : Int) := IntWalk.i64_in _ (by omega)
            have hw3 : IntKind.i64.wrap (j : Int) = (j : Int) := IntWalk.i64_in _ (by omega)
            have hj0 : (0 : Int) ≤ (j : Int) := by omega
            have hw4 : IntKind.u8.wrap ((2 : Int) ^ j) = (2 : Int) ^ j := by
              have : ∀ m : Fin 8, IntKind.u8.wrap ((2 : Int) ^ m.val) = (2 : Int) ^ m.val := by decide +kernel
              exact this ⟨j, hjn⟩
            have hfl := flip_bits_any x j hjn
            have hin : (0 : Int) ≤ (k : Int) ∧ (k : Int) < (n : Int) := by omega
            have Hk := Lib.hid hk
            have Hj := Lib.hid hj
            have Hbit := Lib.hid hbit
            have Hx := Lib.hid hx
            clear hk hj hbit hx
            go_wp2_with fail
            go_still_tail 14, (by kernel_rfl)
            change wpList _ _ _ _ _ wr.drew
            have hcell2 : wr.drew.cell? ⟨w.heap.size, k, none⟩ = some (.int .u8 (x.toNat : Int)) := hcell
            have hfro2 : wr.drew.frozen? ⟨w.heap.size, k, none⟩ = false := hfro
            have hst := World.ownsRow.stored (w := wr.drew) (h := hownx) k (.int .u8 ((flipB x j).toNat : Int))
            have hbd := hbx.drew
            generalize wr.drew = w2 at *
            go_wp2_with fail
            go_roundw
            case rel =>
              refine ⟨i + 1, xs.set k (flipB x j), by omega, by go_num, ?_, ?_, ?_⟩
              · rw [Hk.out, Hj.out]; exact seen_set Hseen.out Hbit.out hlt (by rw [Hbl.out]; exact hf) (by rw [← Hk.out]; exact Hx.out)
              · rw [bytesV, List.map_set]; exact hst.1
              · exact hbd.grown hst.2 (by have := hbd.size; omega) (fun k hk => by cases hk; exact Nat.le_refl _)
            case measure => simp [intOf]; omega
          · have hb := bit_at change i
            rw [if_neg hbit] at hb
            have Hbit := Lib.hid hbit
            clear hbit
            go_wp2_with fail
            go_roundw
            case rel => exact ⟨i + 1, xs, by omega, by go_num, seen_unset Hseen.out (by simpa using Hbit.out), hownx, hbx⟩
            case measure => simp [intOf]; omega
        · go_wp2_with fail
          go_meet
          exact ⟨i, xs, Hseen.out, hownx, hbx⟩
      · go_wp2_with fail
        go_meet
        exact ⟨i, xs, Hseen.out, hownx, hbx⟩
  case rest =>
    obtain ⟨i, xs, hseen, hownx, hbx⟩ := hcut
    have H := Lib.hid (seen_end hseen)
    have Hxl := Lib.hid hseen.1
    clear hseen hown hb1
    have hsb := hs.below hbx
    go_wp2_with fail
    refine (seal_any _ _ _ b _ hsb (by omega)).mono ?_; rintro e w3 ⟨rfl, hown3, hb3⟩
    have hsb := hsb.below hb3
    have hsx := (ownsRow_sl hownx).below hb3
    have hss := ownsRow_sl hown3
    have hbA := hbx.trans (hb3.mono hbx.size)
    have hlt3 : w.heap.size < w3.heap.size := by
      have := (hownx.lt w.heap.size rfl).2; have := hb3.size; omega
    clear hownx hown3
    obtain ⟨Sg, hSg⟩ : ∃ A : Option Addr, A = some ⟨wc.heap.size, 0, none⟩ := ⟨_, rfl⟩
    rw [← hSg] at hss
    obtain ⟨A4, hcut4, hblk4, hsl4⟩ := cutb_from .i64 Sg (n + 4) (n + 4) n (n : Int) rfl (by omega)
    rw [hSg] at hcut4
    have hs4 := hsl4 _ _ hss
    rw [show (b ++ crc4 (crc b)).drop n = crc4 (crc b) by rw [← Hbl.out, List.drop_left]] at hs4
    rw [show n + 4 - n = 4 by omega] at hs4 hcut4
    rw [hSg] at hss
    clear hSg hsl4 hblk4 hbx hb3
    have happ : App w3.heap.size 5 1 w3 (some ⟨w.heap.size, 0, none⟩) n n (bytesV xs) := .inr ⟨hsx, rfl⟩
    go_wp2_with (at_builtin; refine wpList_app _ rfl _ _ 26 rfl w3.heap.size 5 (.int .u8 0) 1 1 Try.underlying26 infoByte rfl (by decide) _ n n (bytesV xs) rfl happ A4 4 4 (bytesV (crc4 (crc b))) rfl hs4 (bytesV_one _) (by unfold maxLen; omega) (by omega) (Nat.le_refl _) ?_; intro A2 d2 w2 hat2)
    have hb4 := hat2.below (Nat.le_refl _)
    have hsx := hsx.below hb4
    have hsb := hsb.below hb4
    have hss := hss.below hb4
    have hbB := hbA.trans (hb4.mono hbA.size)
    have hsl := hat2.app.sl
    rw [← bytesV_append] at hsl
    clear hat2 happ hs4 hcut4 hb4 hbA
    refine (unseal_any _ _ _ (xs ++ crc4 (crc b)) _ hsl (by omega)).mono ?_; rintro e w5 ⟨A5, n5, c5, rfl, _, hb5⟩
    have hsx := hsx.below hb5
    have hsb := hsb.below hb5
    have hss := hss.below hb5
    have hbC := hbB.trans (hb5.mono hbB.size)
    clear hsl hb5 hbB
    obtain ⟨E, z, y, hE, hz1, hy1, hzz, hyz, hsame⟩ : ∃ (E : Nat) (z y : Bool), (unsld (xs ++ crc4 (crc b))).2 = E ∧ ((E : Int) == 0) = z ∧ ((E : Int) == 12) = y ∧ (z == z) = true ∧ (y == z) = false ∧ (xs == b) = z := by
      by_cases he : xs = b
      · refine ⟨0, true, false, ?_, rfl, rfl, rfl, rfl, by simp [he]⟩
        rw [unsld_put, if_pos (H.out.2 he)]
      · refine ⟨12, false, true, ?_, rfl, rfl, rfl, rfl, by simp [he]⟩
        rw [unsld_put, if_neg (fun h => he (H.out.1 h))]
    rw [hE]
    have hcutx := cutb_to .i64 (some ⟨w.heap.size, 0, none⟩) n n n (n : Int) rfl (Nat.le_refl _)
    clear hE H hlt3
    go_wp2_with fail
    --@region 6 14 seen14.spec
    refine wp_region_run (by kernel_rfl) (by kernel_rfl) ?_
    apply RunL.pure
    · intro vs w hb hd; clear hd; simp only [List.take, putL, Act.put, List.setIfInBounds_toArray, List.set_cons_zero, List.set_cons_succ]; unfold StepOK; go_simp; exact ⟨Below.refl _ _, isV_mk _ _⟩
    apply RunL.pure
    · intro vs w hb hd; clear hd; simp only [List.take, putL, Act.put, List.setIfInBounds_toArray, List.set_cons_zero, List.set_cons_succ]; unfold StepOK; go_simp; exact ⟨Below.refl _ _, isV_mk _ _⟩
    apply RunL.pure
    · intro vs w hb hd; have d1 : isV _ (vs 1) w := hd 1 (by decide) (by kernel_rfl); unfold isV at d1; clear hd; simp only [List.take, putL, Act.put, List.setIfInBounds_toArray, List.set_cons_zero, List.set_cons_succ]; unfold StepOK; go_simp; exact ⟨Below.refl _ _, isV_mk _ _⟩
    apply RunL.pure
    · intro vs w hb hd; have d0 : isV _ (vs 0) w := hd 0 (by decide) (by kernel_rfl); unfold isV at d0; have d2 : isV _ (vs 2) w := hd 2 (by decide) (by kernel_rfl); unfold isV at d2; clear hd; have hq := hcutx; simp only [List.take, putL, Act.put, List.setIfInBounds_toArray, List.set_cons_zero, List.set_cons_succ]; unfold StepOK; go_simp; exact ⟨Below.refl _ _, isV_mk _ _⟩
    apply RunL.pure
    · intro vs w hb hd; have d3 : isV _ (vs 3) w := hd 3 (by decide) (by kernel_rfl); unfold isV at d3; clear hd; have hcv := run_str (hsx.below hb); simp only [List.take, putL, Act.put, List.setIfInBounds_toArray, List.set_cons_zero, List.set_cons_succ]; unfold StepOK; go_simp; exact ⟨Below.refl _ _, isV_mk _ _⟩
    apply RunL.pure
    · intro vs w hb hd; clear hd; simp only [List.take, putL, Act.put, List.setIfInBounds_toArray, List.set_cons_zero, List.set_cons_succ]; unfold StepOK; go_simp; exact ⟨Below.refl _ _, isV_mk _ _⟩
    apply RunL.pure
    · intro vs w hb hd; have d5 : isV _ (vs 5) w := hd 5 (by decide) (by kernel_rfl); unfold isV at d5; clear hd; have hcv := run_str (hsb.below hb); simp only [List.take, putL, Act.put, List.setIfInBounds_toArray, List.set_cons_zero, List.set_cons_succ]; unfold StepOK; go_simp; exact ⟨Below.refl _ _, isV_mk _ _⟩
    apply RunL.pure
    · intro vs w hb hd; have d4 : isV _ (vs 4) w := hd 4 (by decide) (by kernel_rfl); unfold isV at d4; have d6 : isV _ (vs 6) w := hd 6 (by decide) (by kernel_rfl); unfold isV at d6; clear hd; simp only [List.take, putL, Act.put, List.setIfInBounds_toArray, List.set_cons_zero, List.set_cons_succ]; unfold StepOK; go_simp; exact ⟨Below.refl _ _, isV_mk _ _⟩
    apply RunL.pure
    · intro vs w hb hd; have d0 : isV _ (vs 0) w := hd 0 (by decide) (by kernel_rfl); unfold isV at d0; have d1 : isV _ (vs 1) w := hd 1 (by decide) (by kernel_rfl); unfold isV at d1; have d2 : isV _ (vs 2) w := hd 2 (by decide) (by kernel_rfl); unfold isV at d2; have d3 : isV _ (vs 3) w := hd 3 (by decide) (by kernel_rfl); unfold isV at d3; have d4 : isV _ (vs 4) w := hd 4 (by decide) (by kernel_rfl); unfold isV at d4; have d5 : isV _ (vs 5) w := hd 5 (by decide) (by kernel_rfl); unfold isV at d5; have d6 : isV _ (vs 6) w := hd 6 (by decide) (by kernel_rfl); unfold isV at d6; have d7 : isV _ (vs 7) w := hd 7 (by decide) (by kernel_rfl); unfold isV at d7; clear hd; simp only [List.take, putL, Act.put, List.setIfInBounds_toArray, List.set_cons_zero, List.set_cons_succ]; unfold StepOK; go_simp; exact ⟨Below.refl _ _, isV_mk _ _⟩
    intro vs w1 hb hd
    have e0 : isV _ (vs 0) w1 := hd 0 (by decide)
    have e1 : isV _ (vs 1) w1 := hd 1 (by decide)
    have e2 : isV _ (vs 2) w1 := hd 2 (by decide)
    have e3 : isV _ (vs 3) w1 := hd 3 (by decide)
    have e4 : isV _ (vs 4) w1 := hd 4 (by decide)
    have e5 : isV _ (vs 5) w1 := hd 5 (by decide)
    have e6 : isV _ (vs 6) w1 := hd 6 (by decide)
    have e7 : isV _ (vs 7) w1 := hd 7 (by decide)
    have e8 : isV _ (vs 8) w1 := hd 8 (by decide)
    clear hd
    unfold isV at e0 e1 e2 e3 e4 e5 e6 e7 e8
    simp only [putL, Act.put, List.setIfInBounds_toArray, List.set_cons_zero, List.set_cons_succ, e0, e1, e2, e3, e4, e5, e6, e7, e8]
    clear e0 e1 e2 e3 e4 e5 e6 e7 e8
    --@end
    have hss := hss.below hb
    have hbD := hbC.trans (hb.mono hbC.size)
    have hsb := hsb.below hb
    clear hb hcutx hsx hbC
    go_upto_block 2 with (go_at_call 24; refine (copyBytes_any _ _ _ (b ++ crc4 (crc b)) _ hss (by omega)).mono ?_; rintro e w7 ⟨rfl, hown7, hb7⟩)
    have hlts : wc.heap.size < w1.heap.size := World.block_lt_of_cell? w1 _ (by
      obtain ⟨ad, h1, h2⟩ := hss.cells 0 _ (List.getElem?_eq_getElem (by rw [hss.len]; omega))
      cases h1; exact h2)
    go_cut [] (fun wx => ∃ ts, Turned (b ++ crc4 (crc b)) n check.toNat 4 ts ∧ wx.ownsRow w1.heap.size 5 1 (.slice (some ⟨w1.heap.size, 0, none⟩) (n + 4) (n + 4)) (n + 4) (bytesV ts) ∧ Below w1.heap.size w1 wx)
    case first =>
      go_wp2_with fail
      go_loopw [19] (fun iv wx => ∃ j ts, j ≤ 4 ∧ iv = .int .i64 (j : Nat) ∧ Turned (b ++ crc4 (crc b)) n check.toNat j ts ∧ wx.ownsRow w1.heap.size 5 1 (.slice (some ⟨w1.heap.size, 0, none⟩) (n + 4) (n + 4)) (n + 4) (bytesV ts) ∧ Below w1.heap.size w1 wx) (fun iv _ => 4 - (intOf iv).toNat)
      case atStart => exact ⟨0, _, by omega, rfl, turned_zero _ _ _, hown7, hb7⟩
      case round =>
        obtain ⟨j, ts, hj, rfl, hturn, hownx, hbx⟩ := hrel
        have Ht := Lib.hid hturn
        clear hturn hown7 hb7
        by_cases hlt : j < 4
        · have hw1 : IntKind.i64.wrap ((n : Int) + (j : Int)) = (n : Int) + (j : Int) := IntWalk.i64_in _ (by omega)
          have hnn : ((n : Int) + (j : Int)).toNat = n + j := by omega
          have hw2 : IntKind.i64.wrap (8 * (j : Int)) = 8 * (j : Int) := IntWalk.i64_in _ (by omega)
          have hn8 : (8 * (j : Int)).toNat = 8 * j := by omega
          have hin : (0 : Int) ≤ (n : Int) + (j : Int) ∧ (n : Int) + (j : Int) < (n : Int) + 4 := by omega
          have hj8 : (0 : Int) ≤ 8 * (j : Int) := by omega
          have hcb := cbyte_wrap check.toNat j
          have hlen : ts.length = n + 4 := by rw [Ht.out.1]; simp [crc4_len, Hbl.out]
          obtain ⟨x, hx⟩ := get_some ts (n + j) (by omega)
          have hcell : wr.cell? ⟨w1.heap.size, n + j, none⟩ = some (.int .u8 (x.toNat : Int)) := by rw [hownx.cellAt (n + j) (by omega)]; simp [bytesV, byteV, hx]
          have hfro := hownx.frozenAt (n + j)
          have hxb := xor_bits_any x (cbyte check.toNat j)
          have Hx := Lib.hid hx
          clear hx hlen
          go_wp2_with fail
          go_still_tail 14, (by kernel_rfl)
          change wpList _ _ _ _ _ wr.drew
          have hcell2 : wr.drew.cell? ⟨w1.heap.size, n + j, none⟩ = some (.int .u8 (x.toNat : Int)) := hcell
          have hfro2 : wr.drew.frozen? ⟨w1.heap.size, n + j, none⟩ = false := hfro
          have hst := World.ownsRow.stored (w := wr.drew) (h := hownx) (n + j) (.int .u8 ((x ^^^ cbyte check.toNat j).toNat : Int))
          have hbd := hbx.drew
          generalize wr.drew = w2 at *
          go_wp2_with fail
          go_roundw
          case rel =>
            refine ⟨j + 1, ts.set (n + j) (x ^^^ cbyte check.toNat j), by omega, by go_num, turned_step Ht.out Hx.out, ?_, ?_⟩
            · rw [bytesV, List.map_set]; exact hst.1
            · exact hbd.grown hst.2 (by have := hbd.size; omega) (fun k hk => by cases hk; exact Nat.le_refl _)
          case measure => simp [intOf]; omega
        · obtain rfl : j = 4 := by omega
          go_wp2_with fail
          go_meet
          exact ⟨ts, Ht.out, hownx, hbx⟩
    case rest =>
      obtain ⟨ts, hturn, hownt, hbx⟩ := hcut
      have hss := hss.below hbx
      have hsb := hsb.below hbx
      have hst := ownsRow_sl hownt
      have hbF := hbD.trans (hbx.mono hbD.size)
      clear hownt hown7 hb7 hbx hbD hlts
      obtain ⟨F, y2, hF, hy1, hy2, hyy⟩ : ∃ (F : Nat) (y2 : Bool), (unsld ts).2 = F ∧ ((F : Int) == 0) = y2 ∧ ((check.toNat : Int) == 0) = y2 ∧ (y2 == y2) = true := by
        refine ⟨_, _, rfl, rfl, ?_, by simp⟩
        have hte := turned_end (b := b) check.isLt (by rw [Hbl.out]; exact hturn)
        rw [Bool.eq_iff_iff, beq_iff_eq, beq_iff_eq]
        omega
      clear hturn
      obtain ⟨q, hq⟩ : ∃ q, q = sl % 4 := ⟨_, rfl⟩
      have hqm : (sl : Int).tmod 4 = (q : Int) := by rw [hq, Int.tmod_eq_emod_of_nonneg (by omega)]; simp
      have hq4 : q < 4 := by omega
      clear hq
      go_wp2_with fail
      refine (unseal_any _ _ _ ts _ hst (by omega)).mono ?_; rintro e w8 ⟨A8, n8, c8, rfl, _, hb8⟩
      rw [hF]
      clear hF hst
      have hss := hss.below hb8
      have hsb := hsb.below hb8
      have hbG := hbF.trans (hb8.mono hbF.size)
      clear hbF hb8
      go_upto_block 4 with fail
      go_cut [14] (fun s wx => ∃ A n' c', s = .slice A n' c' ∧ Sl wx 1 A n' c' (bytesV (sealK (q + 1) b)) ∧ Below w8.heap.size w8 wx)
      case first =>
        go_wp2_with fail
        go_loopw [14, 141] (fun s iv wx => ∃ k A n' c', k ≤ q ∧ iv = .int .u8 (k : Nat) ∧ s = .slice A n' c' ∧ Sl wx 1 A n' c' (bytesV (sealK (k + 1) b)) ∧ Below w8.heap.size w8 wx) (fun _ iv _ => q - (intOf iv).toNat)
        case atStart => exact ⟨0, _, _, _, by omega, rfl, rfl, hss, Below.refl _ _⟩
        case round =>
          obtain ⟨k, A, n', c', hk, rfl, rfl, hsk, hbk⟩ := hrel
          have Hsk := Lib.hid hsk
          have hln : n' ≤ 1000 := by have := hsk.blen; rw [sealK_len, Hbl.out] at this; omega
          clear hss hsk
          by_cases hlt : k < q
          · have hwk : IntKind.u8.wrap ((k : Int) + 1) = (k : Int) + 1 := by simp [IntKind.wrap, IntKind.bits, IntKind.signed]; omega
            go_wp2_with (go_at_call 25; refine (seal_any _ _ _ (sealK (k + 1) b) _ Hsk.out (by omega)).mono ?_; rintro e w9 ⟨rfl, hown9, hb9⟩)
            go_roundw
            case rel => exact ⟨k + 1, _, _, _, by omega, by go_num, rfl, ownsRow_sl hown9, hbk.trans (hb9.mono hbk.size)⟩
            case measure => simp [intOf]; omega
          · obtain rfl : k = q := by omega
            go_wp2_with fail
            go_meet
            exact ⟨_, _, _, rfl, Hsk.out, hbk⟩
      case rest =>
        obtain ⟨A, n', c', rfl, hsk, hbk⟩ := hcut
        have hsb := hsb.below hbk
        have hbH := hbG.trans (hbk.mono hbG.size)
        clear hbG hbk hss
        have hwq : IntKind.u8.wrap ((q : Int) + 1) = (q : Int) + 1 := by simp [IntKind.wrap, IntKind.bits, IntKind.signed]; omega
        generalize wc = w10 at *
        go_upto_block 6 with fail
        go_cut [14] (fun s wx => ∃ A n' c', s = .slice A n' c' ∧ Sl wx 1 A n' c' (bytesV b) ∧ Below w10.heap.size w10 wx)
        case first =>
          go_wp2_with fail
          go_loopw [14, 149] (fun s iv wx => ∃ k A n' c', k ≤ q + 1 ∧ iv = .int .u8 (k : Nat) ∧ s = .slice A n' c' ∧ Sl wx 1 A n' c' (bytesV (sealK (q + 1 - k) b)) ∧ Below w10.heap.size w10 wx) (fun _ iv _ => q + 1 - (intOf iv).toNat)
          case atStart => exact ⟨0, _, _, _, by omega, rfl, rfl, hsk, Below.refl _ _⟩
          case round =>
            obtain ⟨k, A, n', c', hk, rfl, rfl, hsk2, hbk⟩ := hrel
            have Hsk := Lib.hid hsk2
            have hln : n' ≤ 1000 := by have := hsk2.blen; rw [sealK_len, Hbl.out] at this; omega
            clear hsk hsk2
            by_cases hlt : k < q + 1
            · have hwk : IntKind.u8.wrap ((k : Int) + 1) = (k : Int) + 1 := by simp [IntKind.wrap, IntKind.bits, IntKind.signed]; omega
              have hun : unsld (sealK (q + 1 - k) b) = (sealK (q + 1 - (k + 1)) b, 0) := by
                rw [show q + 1 - k = (q + 1 - (k + 1)) + 1 by omega]; exact unsld_sealK _ _
              have Hun := Lib.hid hun
              clear hun
              go_wp2_with (go_at_call 26; refine (unseal_any _ _ _ (sealK (q + 1 - k) b) _ Hsk.out (by omega)).mono ?_; rintro e w9 ⟨A9, n9, c9, rfl, happ9, hb9⟩; rw [Hun.out] at happ9 ⊢; dsimp only at happ9 ⊢)
              go_roundw
              case rel => exact ⟨k + 1, _, _, _, by omega, by go_num, rfl, happ9.sl, hbk.trans (hb9.mono hbk.size)⟩
              case measure => simp [intOf]; omega
            · obtain rfl : k = q + 1 := by omega
              go_wp2_with fail
              go_meet
              exact ⟨_, _, _, rfl, by have := Hsk.out; rwa [Nat.sub_self] at this, hbk⟩
        case rest =>
          obtain ⟨A, n', c', rfl, hse, hbk⟩ := hcut
          have hsb := hsb.below hbk
          have hbI := hbH.trans (hbk.mono hbH.size)
          have hcv1 := run_str hse
          have hcv2 := run_str hsb
          clear hse hsb hbk hbH
          go_wp2_with (go_at_call 21; refine (awake_any _).mono ?_; rintro e w6 ⟨rfl, hn6⟩)
          go_ret
          exact ⟨rfl, hbI.trans (hn6.mono hbI.size)⟩

theorem walk_bytesSeen (A : Option Addr) (n p : Nat) (b : List UInt8) (a1 a2 a3 a4 : Int) (w : World) (hs : Sl w 1 A n p (bytesV b))
    (h1 : (Lit.int .u16 a1).wf = true) (h2 : (Lit.int .u32 a2).wf = true) (h3 : (Lit.int .u32 a3).wf = true) (h4 : (Lit.int .u8 a4).wf = true) :
    Calls Try.prog 6 #[.slice A n p, .int .u16 a1, .int .u32 a2, .int .u32 a3, .int .u8 a4] w fun e w' => e = .returned (.bool true) ∧ Below w.heap.size w w' := by
  simp [Lit.wf, IntKind.min, IntKind.max, IntKind.signed, IntKind.bits] at h1 h2 h3 h4
  obtain ⟨x1, rfl⟩ := Int.eq_ofNat_of_zero_le (show 0 ≤ a1 by omega)
  obtain ⟨x2, rfl⟩ := Int.eq_ofNat_of_zero_le (show 0 ≤ a2 by omega)
  obtain ⟨x3, rfl⟩ := Int.eq_ofNat_of_zero_le (show 0 ≤ a3 by omega)
  obtain ⟨x4, rfl⟩ := Int.eq_ofNat_of_zero_le (show 0 ≤ a4 by omega)
  have e2 : (BitVec.ofNat 32 x2).toNat = x2 := by simp; omega
  have e3 : (BitVec.ofNat 32 x3).toNat = x3 := by simp; omega
  have := walk_seen A n p b x1 (BitVec.ofNat 32 x2) (BitVec.ofNat 32 x3) x4 w hs (by omega) (by omega)
  rw [e2, e3] at this
  exact this
end Go.Proofs.Ytbnifagmbhiblaa
