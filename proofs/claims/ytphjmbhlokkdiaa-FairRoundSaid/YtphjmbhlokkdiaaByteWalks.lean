import Derived.Test.YtphjmbhlokkdiaaProg
import Derived.Test.YtphjmbhlokkdiaaWords
import Derived.Test.YtphjmbhlokkdiaaWalkA
import Derived.Test.YtphjmbhlokkdiaaPureVar
import Derived.Test.YtphjmbhlokkdiaaShelf
namespace Go.Proofs.Ytphjmbhlokkdiaa
open Go.RowKit

theorem infoByte : (Try.prog.info? 5).map (fun i => (i.zero, i.size, i.bytes)) = some (some (.int .u8 0), 1, 1) := by kernel_rfl

set_option maxHeartbeats 400000 in
theorem copyBytes_any (A : Option Addr) (n c : Nat) (l : List UInt8) (w : World) (hs : Sl w 1 A n c (bytesV l)) (hl : n ≤ 140737488351232) :
    Calls Try.prog 26 #[.slice A n c] w fun e w' => e = .returned (.slice (some ⟨w.heap.size, 0, none⟩) n n) ∧
      w'.ownsRow w.heap.size 5 1 (.slice (some ⟨w.heap.size, 0, none⟩) n n) n (bytesV l) ∧ Below w.heap.size w w' := by
  obtain ⟨i0, hi, hz0, hz1, hz2⟩ := info_parts infoByte
  go_enter Try.func26, Try.ntmps26
  go_wp2_with (first | (at_make; refine wpList_make_own _ rfl _ _ 27 rfl w.heap.size 5 i0 (.int .u8 0) 1 Try.underlying27 hi hz0 hz1 _ _ _ n rfl rfl rfl (by rw [hz2]; omega) (by unfold maxLen; omega) (Nat.le_refl _) ?_; intro w1 hown1 hgrow1) | (at_builtin; refine wpList_append_fits_any _ rfl _ _ 27 rfl w.heap.size 5 i0 1 Try.underlying27 hi hz1 w.heap.size 0 n [] rfl hown1 A n c (bytesV l) rfl hs.len hs.none (fun ad ha j u hj => by obtain ⟨ad', h1, h2⟩ := (hs.below (grownBy_below hgrow1)).cells j u hj; rw [ha] at h1; cases h1; exact h2) (bytesV_one l) (by omega) ?_; intro w2 hown2 hgrow2))
  go_ret
  exact ⟨by simp, by simpa using hown2, (grownBy_below hgrow1).trans ((Below.refl _ _).grown hgrow2 (by have := hgrow1.size; omega) (fun k hk => by cases hk; exact Nat.le_refl _))⟩

theorem wrap_u64_nat (n : Nat) (h : n < 18446744073709551616) : IntKind.wrap .u64 (n : Int) = n := by
  simp [IntKind.wrap, IntKind.bits, IntKind.signed]; omega
theorem wrap_u8_nat (n : Nat) (h : n < 256) : IntKind.wrap .u8 (n : Int) = n := by
  simp [IntKind.wrap, IntKind.bits, IntKind.signed]; omega
theorem bits_or_u64 (a b : Nat) (ha : a < 18446744073709551616) (hb : b < 18446744073709551616) : Go.bits .or .u64 (a : Int) (b : Int) = ((a ||| b : Nat) : Int) := by
  have h : Go.bits .or .u64 (a : Int) (b : Int) = IntKind.wrap .u64 (((BitVec.ofInt 64 a ||| BitVec.ofInt 64 b).toNat : Nat) : Int) := rfl
  rw [h, BitVec.ofInt_natCast, BitVec.ofInt_natCast, BitVec.toNat_or, BitVec.toNat_ofNat, BitVec.toNat_ofNat, Nat.mod_eq_of_lt ha, Nat.mod_eq_of_lt hb, wrap_u64_nat _ (Nat.or_lt_two_pow (n := 64) ha hb)]
theorem bits_or_u8 (a b : Nat) (ha : a < 256) (hb : b < 256) : Go.bits .or .u8 (a : Int) (b : Int) = ((a ||| b : Nat) : Int) := by
  have h : Go.bits .or .u8 (a : Int) (b : Int) = IntKind.wrap .u8 (((BitVec.ofInt 8 a ||| BitVec.ofInt 8 b).toNat : Nat) : Int) := rfl
  rw [h, BitVec.ofInt_natCast, BitVec.ofInt_natCast, BitVec.toNat_or, BitVec.toNat_ofNat, BitVec.toNat_ofNat, Nat.mod_eq_of_lt ha, Nat.mod_eq_of_lt hb, wrap_u8_nat _ (Nat.or_lt_two_pow (n := 8) ha hb)]
theorem or_128 (n : Nat) (h : n < 256) : 128 ||| n = 128 + n % 128 := by
  have : ∀ k : Fin 256, 128 ||| k.val = 128 + k.val % 128 := by decide +kernel
  exact this ⟨n, h⟩
theorem bits_or128_u8 (m : Nat) : Go.bits .or .u8 128 ((m : Int) % 256) = ((UInt8.ofNat (128 + m % 128)).toNat : Int) := by
  have h1 : ((m : Int) % 256) = ((m % 256 : Nat) : Int) := by omega
  have h2 : (128 : Int) = ((128 : Nat) : Int) := rfl
  rw [h1, h2, bits_or_u8 128 (m % 256) (by omega) (by omega), or_128 _ (by omega), show m % 256 % 128 = m % 128 by omega, UInt8.toNat_ofNat']
  omega
theorem byte_mod (m : Nat) : ((m : Int) % 256) = ((UInt8.ofNat m).toNat : Int) := by
  rw [UInt8.toNat_ofNat']; omega

set_option maxHeartbeats 400000 in
theorem uint_any (base : Nat) (A : Option Addr) (n0 c : Nat) (l : List UInt8) (n : Nat) (w : World) (ha : App base 5 1 w A n0 c (bytesV l)) (hb : base ≤ w.heap.size)
    (hn : n < 18446744073709551616) (hl : n0 ≤ 140737488351232) :
    Calls Try.prog 56 #[.slice A n0 c, .int .u64 (n : Int)] w fun e w' => ∃ A' n' c', e = .returned (.slice A' n' c') ∧
      AppTo base 5 1 w w' A A' n' c' (bytesV (l ++ uv n)) := by
  have hor : Go.bits .or .u64 (n : Int) 1 = ((n ||| 1 : Nat) : Int) := bits_or_u64 n 1 hn (by omega)
  have hlt : (n ||| 1 : Nat) ≤ 18446744073709551615 := by rw [or_one]; split <;> omega
  obtain ⟨q, hq⟩ : ∃ q, q = Lib.bitLen (n ||| 1) := ⟨_, rfl⟩
  have hR := uv_rounds n hn
  have hR1 := uv_pos n
  have hR2 := uv_len_ten n hn
  have hb := Lib.bitLenAux_bounds 64 (n ||| 1) (by omega) (by rw [or_one]; split <;> omega)
  have hq1 : 1 ≤ q := by rw [hq]; exact hb.1
  have hq2 : q ≤ 64 := by rw [hq]; exact Lib.bitLen_le _ 64 (by omega) (by omega)
  obtain ⟨R, hR'⟩ : ∃ R, R = (uv n).length - 1 := ⟨_, rfl⟩
  have hRq : ((q : Int) - 1) / 7 = (R : Int) := by rw [← hq] at hR; omega
  have HR := Lib.hid hR'
  have Hq := Lib.hid hq
  clear hR hR1 hR2 hR' hq hb
  go_enter Try.func56, Try.ntmps56
  go_wp2_with (go_at_call 87; refine (Try.bits_Len64 _ _ (by omega) (by omega)).mono ?_; rintro e w' ⟨rfl, hw⟩; have hw := hw.symm; subst hw; simp only [Int.toNat_natCast]; rw [← Hq.out])

  clear hRq hor
  go_loopw [0, 1, 10] (fun v m i wr => ∃ (k m' : Nat) (pre : List UInt8) (A1 : Option Addr) (n1 c1 : Nat), k ≤ R ∧ i = .int .i64 k ∧ m = .int .u64 m' ∧ v = .slice A1 n1 c1 ∧
      pre ++ uv m' = uv n ∧ pre.length = k ∧ m' < 18446744073709551616 ∧ AppTo base 5 1 w wr A A1 n1 c1 (bytesV (l ++ pre))) (fun _ _ i _ => R - (intOf i).toNat)
  case atStart => exact ⟨0, n, [], A, n0, c, by omega, rfl, rfl, rfl, rfl, rfl, hn, by simpa using AppTo.refl ha⟩
  case round =>
    obtain ⟨k, m, pre, A1, n1, c1, hk, rfl, rfl, rfl, hpre, hlen, hm, happ⟩ := hrel
    have hn1 : n1 ≤ 140737488351232 + 10 := by
      have h1 := happ.app.sl.blen
      have h2 := ha.sl.blen
      have h3 := uv_len_ten n hn
      rw [List.length_append] at h1
      rw [HR.out] at hk
      omega
    have hsz := happ.grown.size
    have hR10 : R ≤ 10 := by have h3 := uv_len_ten n hn; rw [HR.out]; omega
    have hu : (uv m).length + k = R + 1 := by
      have h1 := congrArg List.length hpre
      rw [List.length_append, hlen] at h1
      have h2 := uv_pos n
      rw [HR.out]; omega
    by_cases hlt : k < R
    · have hbig : 128 ≤ m := by
        apply Classical.byContradiction; intro hh
        have := uv_len_small m (by omega); omega
      obtain ⟨x, hx⟩ : ∃ x, x = UInt8.ofNat (128 + m % 128) := ⟨_, rfl⟩
      have hv := bits_or128_u8 m
      rw [← hx] at hv
      have Hx := Lib.hid hx
      have hlen' := Lib.hid hlen
      have hpre' := Lib.hid hpre
      clear hx hlen hpre hu
      go_wp2_with (at_builtin; refine wpList_app _ rfl _ _ 27 rfl base 5 (.int .u8 0) 1 1 Try.underlying27 infoByte rfl (by decide) A1 n1 c1 (bytesV (l ++ pre)) rfl (happ.app.alloc _) (some ⟨wr.heap.size, 0, none⟩) 1 1 [byteV x] rfl (sl_one _ _ _) (bytesV_one [x]) (by unfold maxLen; omega) (by omega) (by simp; omega) ?_; intro A2 d w2 hat)
      go_roundw
      case rel =>
        refine ⟨k + 1, m / 128, pre ++ [x], A2, _, d, by omega, by go_num, by go_num, rfl, ?_, ?_, by omega, ?_⟩
        · rw [← hpre'.out, uv_big m hbig, Hx.out]; simp
        · rw [List.length_append, hlen'.out]; rfl
        · rw [← List.append_assoc, bytesV_append]
          exact happ.trans (AppTo.after (below_alloc1 _ _) hat)
      case measure => simp [intOf]; omega
    · have hk' : k = R := by omega
      have hsm : m < 128 := (uv_len_one m).1 (by omega)
      obtain ⟨x, hx⟩ : ∃ x, x = UInt8.ofNat m := ⟨_, rfl⟩
      have hv : m = x.toNat := by rw [hx, UInt8.toNat_ofNat']; omega
      have Hx := Lib.hid hx
      clear hx
      subst hv
      have hlen' := Lib.hid hlen
      have hpre' := Lib.hid hpre
      have hkk := Lib.hid hk'
      clear hlen hpre hu hk'
      go_wp2_with (at_builtin; refine wpList_app _ rfl _ _ 27 rfl base 5 (.int .u8 0) 1 1 Try.underlying27 infoByte rfl (by decide) A1 n1 c1 (bytesV (l ++ pre)) rfl (happ.app.alloc _) (some ⟨wr.heap.size, 0, none⟩) 1 1 [byteV x] rfl (sl_one _ _ _) (bytesV_one [x]) (by unfold maxLen; omega) (by omega) (by simp; omega) ?_; intro A2 d w2 hat)
      go_ret
      refine ⟨A2, _, d, rfl, ?_⟩
      rw [← hpre'.out, uv_small _ hsm, ← Hx.out, ← List.append_assoc, bytesV_append]
      exact happ.trans (AppTo.after (below_alloc1 _ _) hat)
end Go.Proofs.Ytphjmbhlokkdiaa
