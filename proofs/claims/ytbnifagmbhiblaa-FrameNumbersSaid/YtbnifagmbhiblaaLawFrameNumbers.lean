import Derived.Test.YtbnifagmbhiblaaFramedB
import Derived.Test.YtbnifagmbhiblaaPureTurned
import Derived.StillTailTactics
import Derived.Laws.OwnMore
namespace Go.Proofs.Ytbnifagmbhiblaa
open Go.RowKit
set_option linter.unusedSimpArgs false
set_option linter.unusedVariables false

/-- a slice that was made: noughts -/
theorem made_zeros {w : World} {base n : Nat} {A : Option Addr} {c : Nat} (h : w.ownsRow base 5 1 (.slice A n c) n (madeCells (Value.int .u8 0).cells (n * 1)).toList) : ∃ zs : List UInt8, zs.length = n ∧ Sl w 1 A n c (bytesV zs) := by
  have hs := ownsRow_sl h
  refine ⟨List.replicate n 0, by simp, ?_⟩
  have e : (madeCells (Value.int .u8 0).cells (n * 1)).toList = bytesV (List.replicate n 0) := by
    rw [show (Value.int .u8 0).cells = #[.int .u8 0] from rfl, toList_madeCells_one, Nat.mul_one]
    unfold bytesV byteV
    simp
  rw [← e]
  exact hs
theorem frm_body : frm [98, 111, 100, 121] = [4, 98, 111, 100, 121, 219, 168, 11, 178, 165] := by
  unfold frm
  rw [show ([98, 111, 100, 121] : List UInt8).length = 4 from rfl, uv_small 4 (by omega)]
  decide +kernel
theorem body_other : ∀ i, i < 10 → (fg (([4, 98, 111, 100, 121, 219, 168, 11, 178, 165] : List UInt8).set i (([4, 98, 111, 100, 121, 219, 168, 11, 178, 165] : List UInt8).getD i 0 ^^^ 1)) 0).2.2 ≠ 0 := by
  decide +kernel
theorem uv_len_20 : (uv 1048576).length = 3 := by
  have := uv_len_ge 2 1048576 (by omega)
  have := uv_len_le 2 1048576 (by omega)
  omega
/-- the longest body, behind five bytes -/
theorem long_facts (zs : List UInt8) (hz : zs.length = 1048576) : ([97, 104, 101, 97, 100] ++ frm zs : List UInt8).length = 1048589 ∧ fg ([97, 104, 101, 97, 100] ++ frm zs) 5 = (zs, 1048589, 0) := by
  have h1 : (frm zs).length = 1048584 := by rw [frm_len, hz, uv_len_20]
  refine ⟨by rw [List.length_append, h1]; rfl, ?_⟩
  have h := fg_frm [97, 104, 101, 97, 100] zs [] 5 rfl (by omega) (by omega)
  rw [List.append_nil, h1] at h
  exact h

set_option maxRecDepth 100000 in
set_option maxHeartbeats 2000000 in
theorem walk_frameNumbers (w : World) : Calls Try.prog 10 #[] w fun e w' => e = .returned (.bool true) ∧ Below w.heap.size w w' := by
  have kc := fun (w : World) (C : Array Value) (n c : Nat) => Lib.run_convert_bytes_const (P := Try.prog) w 26 5 C n c Try.underlying26 Try.underlying5
  obtain ⟨i0, hi, hz0, hz1, hz2⟩ := info_parts infoByte
  obtain ⟨M, hM⟩ : ∃ M : Nat, M = 1048576 := ⟨_, rfl⟩
  have HM := Lib.hid hM
  clear hM
  go_enter Try.func10, Try.ntmps10
  go_wp2_with fail
  refine (put_none _ _ _ _ _ _).mono ?_; rintro e w1 ⟨rfl, rfl⟩
  go_wp2_with (at_make; refine wpList_make_full _ rfl _ _ 26 rfl w.heap.size 5 i0 (.int .u8 0) 1 Try.underlying26 hi hz0 hz1 _ _ _ _ 1048577 rfl rfl rfl rfl (by rw [hz2]; omega) (by unfold maxLen; omega) (Nat.le_refl _) ?_; intro w1 hown1 hgrow1; have hb1 := grownBy_below hgrow1; clear hown1 hgrow1)
  refine (put_long _ _ _ _ _ _ _ (by omega)).mono ?_; rintro e w2 ⟨rfl, rfl⟩
  go_wp2_with (at_make; refine wpList_make_full _ rfl _ _ 26 rfl (w1.heap.size + 1) 5 i0 (.int .u8 0) 1 Try.underlying26 hi hz0 hz1 _ _ _ _ M rfl rfl (by have := HM.out; omega) (by have := HM.out; omega) (by have := HM.out; rw [hz2]; omega) (by have := HM.out; unfold maxLen; omega) (by simp) ?_; intro w2 hown2 hgrow2; have hb2 := grownBy_below hgrow2; obtain ⟨zs, hzl, hsz⟩ := made_zeros hown2; clear hown2 hgrow2)
  have hlit := (sl_lit_mark w1 [97, 104, 101, 97, 100] 5 _).below hb2
  have hbA : Below w.heap.size w w2 := (hb1.alloc hb1.size _).trans (hb2.mono (by simp; have := hb1.size; omega))
  have hsz2 := hb2.size
  have hsz3 : w1.heap.size + 1 ≤ w2.heap.size := by simpa using hsz2
  have hsz : Sl w2 1 (some ⟨w1.heap.size + 1, 0, none⟩) M M (bytesV zs) := by simpa using hsz
  have hrow : rowOf (w1.heap.size + 1) (some ⟨w1.heap.size, 0, none⟩) = none := rowOf_lt (by simp)
  refine (put_any (w1.heap.size + 1) _ _ 5 5 _ _ [97, 104, 101, 97, 100] zs _ (.inr ⟨hlit, rfl⟩) hsz3 hsz (fun ad _ => by rw [hrow]; simp) (by omega) (by have := HM.out; omega) (by have := HM.out; omega)).mono ?_; rintro e w3 ⟨A3, n3, c3, rfl, hto⟩
  have hs3 := hto.app.sl
  have hbB : Below w.heap.size w w3 := hbA.trans ((hto.below hsz3).mono (by have := hb1.size; omega))
  obtain ⟨hll, hfl⟩ := long_facts zs (hzl.trans HM.out)
  obtain rfl : n3 = 1048589 := by rw [← hs3.blen, hll]
  have Hfl := Lib.hid hfl
  have hcut := cutb_to .i64 A3 1048589 c3 5 5 rfl (by have := hs3.le; omega)
  have hs5 := slb_to hs3 5 (by omega)
  rw [show ([97, 104, 101, 97, 100] ++ frm zs : List UInt8).take 5 = [97, 104, 101, 97, 100] from rfl] at hs5
  have hcv := run_str hs5
  rw [show bstr [97, 104, 101, 97, 100] = { data := #[97, 104, 101, 97, 100] } from rfl] at hcv
  obtain ⟨L, hL⟩ : ∃ L, L = ([97, 104, 101, 97, 100] ++ frm zs : List UInt8) := ⟨_, rfl⟩
  rw [← hL] at hs3 Hfl
  clear hto hlit hsz hbA hb1 hb2 hll hfl hs5 hsz2 hsz3 hrow hL
  go_wp2_with fail
  refine (get_any _ _ _ L _ _ hs3 (by omega)).mono ?_; rintro e w4 ⟨v, rfl, hown4, hb4⟩
  rw [Hfl.out] at hown4 ⊢
  obtain ⟨A4, c4, rfl, _, _⟩ := own_form hown4
  have hbC := hbB.trans (hb4.mono hbB.size)
  dsimp only
  rw [hzl]
  have hMb : ((M : Int) != 1048576) = false := by have := HM.out; simp; omega
  clear hs3 hown4 hbB hb4 hcv hcut Hfl
  go_wp2_with fail
  refine (put_nil _ _ _ [98, 111, 100, 121] _ (sl_lit_mark _ [98, 111, 100, 121] 5 _) (by decide) (by decide)).mono ?_; rintro e w5 ⟨A5, n5, c5, rfl, happ5, hn5⟩
  have hbD : Below w.heap.size w w5 := (hbC.alloc hbC.size _).trans (hn5.mono (by simp; have := hbC.size; omega)); clear hn5 hbC
  have hs5 := happ5.sl
  rw [frm_body] at hs5
  obtain rfl : n5 = 10 := by rw [← hs5.blen]; rfl
  clear happ5
  obtain ⟨fb, hfb⟩ : ∃ fb : List UInt8, fb = [4, 98, 111, 100, 121, 219, 168, 11, 178, 165] := ⟨_, rfl⟩
  have hfl : fb.length = 10 := by rw [hfb]; rfl
  have hbo := body_other
  rw [← hfb] at hs5 hbo
  have Hbo := Lib.hid hbo
  have Hfb := Lib.hid hfb
  have Hfl := Lib.hid hfl
  clear hbo hfb hfl
  go_upto_block 0 with fail
  go_cut [] (fun wx => Below w5.heap.size w5 wx)
  case first =>
    go_wp2_with fail
    go_loopw [95] (fun iv wx => ∃ i : Nat, i ≤ 10 ∧ iv = .int .i64 (i : Nat) ∧ Below w5.heap.size w5 wx) (fun iv _ => 10 - (intOf iv).toNat)
    case atStart => exact ⟨0, by omega, rfl, Below.refl _ _⟩
    case round =>
      obtain ⟨i, hi, rfl, hbx⟩ := hrel
      by_cases hlt : i < 10
      · obtain ⟨x, hx⟩ := get_some fb i (by rw [Hfl.out]; exact hlt)
        have hbi := Hbo.out i hlt
        rw [List.getD_eq_getElem?_getD, hx, Option.getD_some] at hbi
        obtain ⟨v, hv⟩ : ∃ v, v = x ^^^ 1 := ⟨_, rfl⟩
        rw [← hv] at hbi
        have hxb : Go.bits .xor .u8 (x.toNat : Int) 1 = (v.toNat : Int) := by rw [hv]; exact xor_bits_any x 1
        have Hx := Lib.hid hx
        have Hbi := Lib.hid hbi
        have hsx := hs5.below hbx
        clear hx hbi hv
        go_wp2_with fail
        refine (copyBytes_any _ _ _ fb _ hsx (by omega)).mono ?_; rintro e w6 ⟨rfl, hown6, hb6⟩
        have hcell : w6.cell? ⟨wr.heap.size, i, none⟩ = some (.int .u8 (x.toNat : Int)) := by
          rw [hown6.cellAt i (by omega)]
          simp only [bytesV, List.getElem?_map, Hx.out]; rfl
        have hfro := hown6.frozenAt i
        have hin : (0 : Int) ≤ (i : Int) ∧ (i : Int) < 10 := by omega
        have hst := World.ownsRow.stored (w := w6) (h := hown6) i (.int .u8 (v.toNat : Int))
        have hst1 := hst.1
        have hbv : (bytesV fb).set i (.int .u8 (v.toNat : Int)) = bytesV (fb.set i v) := by rw [bytesV, bytesV, List.map_set]; rfl
        rw [hbv] at hst1
        have hss := ownsRow_sl hst1
        have hb7 : Below wr.heap.size wr (w6.setCell ⟨wr.heap.size, i, none⟩ (.int .u8 (v.toNat : Int))) := hb6.setCell (Nat.le_refl _) _
        have hbz := hbx.trans (hb7.mono hbx.size)
        obtain ⟨⟨rx, rn, er⟩, hg⟩ : ∃ g, fg (fb.set i v) 0 = g := ⟨_, rfl⟩
        have he : er ≠ 0 := by have := Hbi.out; rw [hg] at this; exact this
        have heb : ((er : Int) == 0) = false := by simp; omega
        have Hg := Lib.hid hg
        clear hst hst1 hbv hown6 hb6 hb7 hsx hg
        go_wp2_with fail
        refine (get_any _ _ _ (fb.set i v) _ _ hss (by omega)).mono ?_; rintro e w7 ⟨v7, rfl, _, hb7⟩
        rw [Hg.out]
        have hby := hbz.trans (hb7.mono hbz.size)
        clear hss hb7 hbz hcell hfro
        dsimp only
        go_wp2_with fail
        go_roundw
        case rel => exact ⟨i + 1, by omega, by go_num, hby⟩
        case measure => simp [intOf]; omega
      · obtain rfl : i = 10 := by omega
        go_wp2_with fail
        go_meet
        exact hbx
  case rest =>
    have hbE := hbD.trans (hcut.mono hbD.size)
    have hs6 := hs5.below hcut
    generalize wc = w6 at *
    clear hs5 hbD hcut Hbo
    have hct := cutb_to .i64 A5 10 c5 9 9 rfl (by have := hs6.le; omega)
    have hs9 := slb_to hs6 9 (by omega)
    rw [Hfb.out] at hs9
    rw [show ([4, 98, 111, 100, 121, 219, 168, 11, 178, 165] : List UInt8).take 9 = [4, 98, 111, 100, 121, 219, 168, 11, 178] from rfl] at hs9
    clear hs6
    go_wp2_with fail
    refine (errs_any _ _ _ [1] 2 _ _ _ (sl_lit _ [1] 5) rfl (by decide) (by decide +kernel)).mono ?_; rintro e w7 ⟨rfl, hn⟩
    have hb7 : Below w.heap.size w w7 := (hbE.alloc hbE.size _).trans (hn.mono (by simp; have := hbE.size; omega))
    have hs9 := (hs9.alloc' (.cells #[.int .u8 1] 5)).below hn; clear hn hbE
    go_wp2_with fail
    refine (errs_any _ _ _ [1] 2 _ _ _ (sl_lit _ [1] 5) rfl (by decide) (by decide +kernel)).mono ?_; rintro e w8 ⟨rfl, hn⟩
    have hb8 : Below w.heap.size w w8 := (hb7.alloc hb7.size _).trans (hn.mono (by simp; have := hb7.size; omega))
    have hs9 := (hs9.alloc' (.cells #[.int .u8 1] 5)).below hn; clear hn hb7
    go_wp2_with fail
    refine (errs_any _ _ _ [] 11 _ _ _ (Sl.nil _ _) rfl (by decide) (by decide +kernel)).mono ?_; rintro e w9 ⟨rfl, hn⟩
    have hb9 := hb8.trans (hn.mono hb8.size)
    have hs9 := hs9.below hn; clear hn hb8
    go_wp2_with fail
    refine (errs_any _ _ _ [128] 11 _ _ _ (sl_lit _ [128] 5) rfl (by decide) (by decide +kernel)).mono ?_; rintro e w10 ⟨rfl, hn⟩
    have hb10 : Below w.heap.size w w10 := (hb9.alloc hb9.size _).trans (hn.mono (by simp; have := hb9.size; omega))
    have hs9 := (hs9.alloc' (.cells #[.int .u8 128] 5)).below hn; clear hn hb9
    go_wp2_with fail
    refine (errs_any _ _ _ [128, 0] 10 _ _ _ (sl_lit _ [128, 0] 5) rfl (by decide) (by decide +kernel)).mono ?_; rintro e w11 ⟨rfl, hn⟩
    have hb11 : Below w.heap.size w w11 := (hb10.alloc hb10.size _).trans (hn.mono (by simp; have := hb10.size; omega))
    have hs9 := (hs9.alloc' (.cells #[.int .u8 128, .int .u8 0] 5)).below hn; clear hn hb10
    go_wp2_with fail
    refine (errs_any _ _ _ [129, 128, 64] 10 _ _ _ (sl_lit _ [129, 128, 64] 5) rfl (by decide) (by decide +kernel)).mono ?_; rintro e w12 ⟨rfl, hn⟩
    have hb12 : Below w.heap.size w w12 := (hb11.alloc hb11.size _).trans (hn.mono (by simp; have := hb11.size; omega))
    have hs9 := (hs9.alloc' (.cells #[.int .u8 129, .int .u8 128, .int .u8 64] 5)).below hn; clear hn hb11
    go_wp2_with fail
    refine (errs_any _ _ _ [128, 128, 64] 11 _ _ _ (sl_lit _ [128, 128, 64] 5) rfl (by decide) (by decide +kernel)).mono ?_; rintro e w13 ⟨rfl, hn⟩
    have hb13 : Below w.heap.size w w13 := (hb12.alloc hb12.size _).trans (hn.mono (by simp; have := hb12.size; omega))
    have hs9 := (hs9.alloc' (.cells #[.int .u8 128, .int .u8 128, .int .u8 64] 5)).below hn; clear hn hb12
    go_wp2_with fail
    refine (errs_any _ _ _ [4, 98, 111, 100, 121, 219, 168, 11, 178] 11 _ _ _ hs9 rfl (by decide) (by decide +kernel)).mono ?_; rintro e w14 ⟨rfl, hn⟩
    have hb14 := hb13.trans (hn.mono hb13.size); clear hn hb13
    go_wp2_with (go_at_call 47; refine (awake03_any _).mono ?_; rintro e w15 ⟨rfl, hn⟩)
    go_ret
    exact ⟨rfl, hb14.trans (hn.mono hb14.size)⟩
end Go.Proofs.Ytbnifagmbhiblaa
