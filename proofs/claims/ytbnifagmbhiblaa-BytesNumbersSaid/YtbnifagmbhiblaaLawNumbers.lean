import Derived.Test.YtbnifagmbhiblaaLawHelp
import Derived.Test.YtbnifagmbhiblaaPureSeen
import Derived.WalkKit
import Derived.Deep.CutBlock
import Derived.Deep.DeepCutAuto
namespace Go.Proofs.Ytbnifagmbhiblaa
open Go.RowKit
set_option linter.unusedSimpArgs false
set_option linter.unusedVariables false

def uvF : Nat → Nat → List UInt8
  | 0, _ => []
  | f + 1, n => if n < 128 then [UInt8.ofNat n] else UInt8.ofNat (128 + n % 128) :: uvF f (n / 128)
theorem uv_fuel : ∀ f n, n < 128 ^ (f + 1) → uvF (f + 1) n = uv n := by
  intro f
  induction f with
  | zero => intro n h; simp at h; rw [uvF, if_pos h, uv_small n h]
  | succ f ih =>
    intro n h
    rw [uvF]
    by_cases h1 : n < 128
    · rw [if_pos h1, uv_small n h1]
    · rw [if_neg h1, uv_big n (by omega), ih (n / 128) (by rw [Nat.pow_succ] at h; omega)]
theorem uv_is (n : Nat) (l : List UInt8) (h : n < 128 ^ 10) (hl : uvF 10 n = l) : l = uv n := by rw [← hl, uv_fuel 9 n h]

theorem uv_len_eq (k n : Nat) (h1 : 128 ^ k ≤ n) (h2 : n < 128 ^ (k + 1)) : (uv n).length = k + 1 := by
  have := uv_len_ge k n h1
  have := uv_len_le k n h2
  omega
theorem num_len (k : Nat) (h1 : 1 ≤ k) (h9 : k ≤ 9) : ∃ M : Nat, M = 2 ^ (7 * k - 1) ∧ 1 ≤ M ∧ M ≤ 4611686018427387904 ∧ (uv (zz (-(M : Int)))).length = k ∧ (uv (zz ((M : Int) - 1))).length = k ∧
    (uv (zz (M : Int))).length = k + 1 ∧ (uv (zz (-(M : Int) - 1))).length = k + 1 := by
  obtain ⟨j, rfl⟩ : ∃ j, k = j + 1 := ⟨k - 1, by omega⟩
  have hp : ∀ j : Fin 9, 2 * 2 ^ (7 * (j.val + 1) - 1) = 128 ^ (j.val + 1) ∧ 128 ^ (j.val + 1) = 128 * 128 ^ j.val ∧ 128 ^ (j.val + 2) = 128 * 128 ^ (j.val + 1) ∧ 2 ^ (7 * (j.val + 1) - 1) ≤ 4611686018427387904 ∧ 1 ≤ 128 ^ j.val := by decide
  obtain ⟨e1, e2, e3, e4, e5⟩ := hp ⟨j, by omega⟩
  simp only at e1 e2 e3 e4 e5
  obtain ⟨M, hM⟩ : ∃ M, M = 2 ^ (7 * (j + 1) - 1) := ⟨_, rfl⟩
  rw [← hM] at e1 e4
  refine ⟨M, hM, by omega, e4, uv_len_eq j _ ?_ ?_, uv_len_eq j _ ?_ ?_, uv_len_eq (j + 1) _ ?_ ?_, uv_len_eq (j + 1) _ ?_ ?_⟩ <;> unfold zz <;> split <;> omega

theorem getBlob_lit (A : Option Addr) (n c : Nat) (l s : List UInt8) (nx er : Nat) (at_ most : Int) (w : World) (hs : Sl w 1 A n c (bytesV l)) (hl : n ≤ 140737488351232) (hm : -9223372036854775808 ≤ most) (hm2 : most ≤ 9223372036854775807) (hg : gb l at_ most = (s, nx, er)) :
    Calls Try.prog 30 #[.slice A n c, .int .i64 at_, .int .i64 most] w fun e w' => ∃ A' n' c', e = .returned (.tuple #[.slice A' n' c', .int .i64 (nx : Int), .int .i64 (er : Int)]) ∧
      Sl w' 1 A' n' c' (bytesV s) ∧ Below w.heap.size w w' :=
  (getBlob_any A n c l at_ most w hs hl hm hm2).mono fun e w' ⟨A', n', c', he, ho, hb⟩ => by
    rw [hg] at he ho
    exact ⟨A', n', c', he, ownsRow_sl ho, hb⟩
theorem unseal_lit (A : Option Addr) (n c : Nat) (l s : List UInt8) (er : Nat) (w : World) (hs : Sl w 1 A n c (bytesV l)) (hl : n ≤ 140737488351232) (hg : unsld l = (s, er)) :
    Calls Try.prog 26 #[.slice A n c] w fun e w' => ∃ A' n' c', e = .returned (.tuple #[.slice A' n' c', .int .i64 (er : Int)]) ∧ Sl w' 1 A' n' c' (bytesV s) ∧ Below w.heap.size w w' :=
  (unseal_any A n c l w hs hl).mono fun e w' ⟨A', n', c', he, ho, hb⟩ => by
    rw [hg] at he ho
    exact ⟨A', n', c', he, ho.sl, hb⟩

theorem seal_lit (A : Option Addr) (n c : Nat) (l : List UInt8) (w : World) (hs : Sl w 1 A n c (bytesV l)) (hl : n ≤ 140737488351232) :
    Calls Try.prog 25 #[.slice A n c] w fun e w' => ∃ A' n' c', e = .returned (.slice A' n' c') ∧ Sl w' 1 A' n' c' (bytesV (l ++ crc4 (crc l))) ∧ Below w.heap.size w w' :=
  (seal_any A n c l w hs hl).mono fun e w' ⟨he, ho, hb⟩ => ⟨_, _, _, he, ownsRow_sl ho, hb⟩

set_option maxRecDepth 100000 in
set_option maxHeartbeats 2000000 in
theorem walk_numbers (w : World) : Calls Try.prog 7 #[] w fun e w' => e = .returned (.bool true) ∧ Below w.heap.size w w' := by
  have kc := fun (w : World) (C : Array Value) (n c : Nat) => Lib.run_convert_bytes_const (P := Try.prog) w 26 5 C n c Try.underlying26 Try.underlying5
  go_enter Try.func7, Try.ntmps7
  go_upto_block 0 with fail
  go_cut [] (fun wx => Below w.heap.size w wx)
  case first =>
    go_wp2_with fail
    go_loopw [1] (fun iv wx => ∃ k : Nat, 1 ≤ k ∧ k ≤ 10 ∧ iv = .int .i64 (k : Nat) ∧ Below w.heap.size w wx) (fun iv _ => 10 - (intOf iv).toNat)
    case atStart => exact ⟨1, by omega, by omega, rfl, Below.refl _ _⟩
    case round =>
      obtain ⟨k, hk1, hk, rfl, hb⟩ := hrel
      by_cases hlt : k < 10
      · obtain ⟨M, hM, m1, m2, l1, l2, l3, l4⟩ := num_len k hk1 (by omega)
        have L1 := Lib.hid l1
        have L2 := Lib.hid l2
        have L3 := Lib.hid l3
        have L4 := Lib.hid l4
        have hsh : wrap64 ((2 : Int) ^ (7 * k - 1)) = (M : Int) := by
          rw [show (2 : Int) ^ (7 * k - 1) = (M : Int) by rw [hM]; simp]
          exact IntWalk.wrap64_in _ (by omega)
        have hsm : wrap64 (-(M : Int)) = -(M : Int) := IntWalk.wrap64_in _ (by omega)
        have hpos : (0 : Int) ≤ 7 * (k : Int) - 1 := by omega
        clear hM l1 l2 l3 l4
        go_wp2_with fail
        refine (int_nil (-(M : Int)) _ (by omega) (by omega)).mono ?_; rintro e w1 ⟨v1, rfl, hn1, A1, n1, c1, rfl, hs1⟩
        have hq : n1 = k := by rw [← hs1.blen, L1.out]
        subst hq
        have hb1 := hb.trans (hn1.mono hb.size)
        clear hs1 hn1 hb
        go_wp2_with fail
        refine (int_nil ((M : Int) - 1) _ (by omega) (by omega)).mono ?_; rintro e w2 ⟨v2, rfl, hn2, A2, n2, c2, rfl, hs2⟩
        have hq : n2 = n1 := by rw [← hs2.blen, L2.out]
        subst hq
        have hb2 := hb1.trans (hn2.mono hb1.size)
        clear hs2 hn2 hb1
        go_wp2_with fail
        refine (int_nil (M : Int) _ (by omega) (by omega)).mono ?_; rintro e w3 ⟨v3, rfl, hn3, A3, n3, c3, rfl, hs3⟩
        have hq : n3 = n2 + 1 := by rw [← hs3.blen, L3.out]
        subst hq
        have hb3 := hb2.trans (hn3.mono hb2.size)
        clear hs3 hn3 hb2
        go_wp2_with fail
        refine (int_nil (-(M : Int) - 1) _ (by omega) (by omega)).mono ?_; rintro e w4 ⟨v4, rfl, hn4, A4, n4, c4, rfl, hs4⟩
        have hq : n4 = n2 + 1 := by rw [← hs4.blen, L4.out]
        subst hq
        have hb4 := hb3.trans (hn4.mono hb3.size)
        clear hs4 hn4 hb3
        go_wp2_with fail
        go_roundw
        case rel => exact ⟨n2 + 1, by omega, by omega, by go_num, hb4⟩
        case measure => simp [intOf]; omega
      · obtain rfl : k = 10 := by omega
        go_wp2_with fail
        go_meet
        exact hb
  case rest =>
    have hb0 := hcut
    generalize wc = w0 at *
    go_wp2_with fail
    refine (signed_lit _ _ _ (-9223372036854775808) [255, 255, 255, 255, 255, 255, 255, 255, 255, 1] _ (sl_lit _ [255, 255, 255, 255, 255, 255, 255, 255, 255, 1] 5) (by rw [show zz (-9223372036854775808) = 18446744073709551615 by decide]; exact uv_is _ _ (by decide) (by decide)) (by omega) (by omega) (by decide) (by decide)).mono ?_; rintro e w1 ⟨rfl, hn⟩
    have hb1 : Below w.heap.size w w1 := (hb0.alloc hb0.size _).trans (hn.mono (by simp; have := hb0.size; omega)); clear hn hb0
    go_wp2_with fail
    refine (signed_lit _ _ _ 9223372036854775807 [254, 255, 255, 255, 255, 255, 255, 255, 255, 1] _ (sl_lit _ [254, 255, 255, 255, 255, 255, 255, 255, 255, 1] 5) (by rw [show zz 9223372036854775807 = 18446744073709551614 by decide]; exact uv_is _ _ (by decide) (by decide)) (by omega) (by omega) (by decide) (by decide)).mono ?_; rintro e w2 ⟨rfl, hn⟩
    have hb2 : Below w.heap.size w w2 := (hb1.alloc hb1.size _).trans (hn.mono (by simp; have := hb1.size; omega)); clear hn hb1
    go_wp2_with fail
    refine (writes_lit _ _ _ _ 9223372036854775808 [128, 128, 128, 128, 128, 128, 128, 128, 128, 1] _ (sl_lit _ [128, 128, 128, 128, 128, 128, 128, 128, 128, 1] 5) rfl (uv_is _ _ (by decide) (by decide)) (by omega) (by decide) (by decide)).mono ?_; rintro e w3 ⟨rfl, hn⟩
    have hb3 : Below w.heap.size w w3 := (hb2.alloc hb2.size _).trans (hn.mono (by simp; have := hb2.size; omega)); clear hn hb2
    go_wp2_with fail
    refine (refused_lit _ _ _ 10 _ _ [255, 255, 255, 255, 255, 255, 255, 255, 255, 2] _ (sl_lit _ [255, 255, 255, 255, 255, 255, 255, 255, 255, 2] 5) rfl (by decide) (by decide)).mono ?_; rintro e w4 ⟨rfl, hn⟩
    have hb4 : Below w.heap.size w w4 := (hb3.alloc hb3.size _).trans (hn.mono (by simp; have := hb3.size; omega)); clear hn hb3
    go_wp2_with fail
    refine (refused_lit _ _ _ 10 _ _ [255, 255, 255, 255, 255, 255, 255, 255, 255, 255, 0] _ (sl_lit _ [255, 255, 255, 255, 255, 255, 255, 255, 255, 255, 0] 5) rfl (by decide) (by decide)).mono ?_; rintro e w5 ⟨rfl, hn⟩
    have hb5 : Below w.heap.size w w5 := (hb4.alloc hb4.size _).trans (hn.mono (by simp; have := hb4.size; omega)); clear hn hb4
    go_wp2_with fail
    refine (refused_lit _ _ _ 10 _ _ [255, 255, 255, 255, 255, 255, 255, 255, 255, 0] _ (sl_lit _ [255, 255, 255, 255, 255, 255, 255, 255, 255, 0] 5) rfl (by decide) (by decide)).mono ?_; rintro e w6 ⟨rfl, hn⟩
    have hb6 : Below w.heap.size w w6 := (hb5.alloc hb5.size _).trans (hn.mono (by simp; have := hb5.size; omega)); clear hn hb5
    go_wp2_with fail
    refine (refused_lit _ _ _ 11 _ _ [255, 255, 255, 255, 255, 255, 255, 255, 255] _ (sl_lit _ [255, 255, 255, 255, 255, 255, 255, 255, 255] 5) rfl (by decide) (by decide)).mono ?_; rintro e w7 ⟨rfl, hn⟩
    have hb7 : Below w.heap.size w w7 := (hb6.alloc hb6.size _).trans (hn.mono (by simp; have := hb6.size; omega)); clear hn hb6
    go_wp2_with fail
    refine (refused_lit _ _ _ 11 _ _ [1, 2, 3] _ (sl_lit _ [1, 2, 3] 5) rfl (by decide) (by decide)).mono ?_; rintro e w8 ⟨rfl, hn⟩
    have hb8 : Below w.heap.size w w8 := (hb7.alloc hb7.size _).trans (hn.mono (by simp; have := hb7.size; omega)); clear hn hb7
    go_wp2_with fail
    refine (refused_lit _ _ _ 2 _ _ [1, 2, 3] _ (sl_lit _ [1, 2, 3] 5) rfl (by decide) (by decide)).mono ?_; rintro e w9 ⟨rfl, hn⟩
    have hb9 : Below w.heap.size w w9 := (hb8.alloc hb8.size _).trans (hn.mono (by simp; have := hb8.size; omega)); clear hn hb8
    go_wp2_with fail
    refine (refused_lit _ _ _ 2 _ _ [1, 2, 3] _ (sl_lit _ [1, 2, 3] 5) rfl (by decide) (by decide)).mono ?_; rintro e w10 ⟨rfl, hn⟩
    have hb10 : Below w.heap.size w w10 := (hb9.alloc hb9.size _).trans (hn.mono (by simp; have := hb9.size; omega)); clear hn hb9
    go_wp2_with fail
    refine (getBlob_lit _ _ _ [3, 97, 98] [] 0 11 _ _ _ (sl_lit_mark _ [3, 97, 98] 5 _) (by decide) (by omega) (by omega) (by decide)).mono ?_; rintro e w11 ⟨B11, m11, d11, rfl, hs, hn⟩
    have hb11 : Below w.heap.size w w11 := (hb10.alloc hb10.size _).trans (hn.mono (by simp; have := hb10.size; omega)); clear hn hb10
    clear hs
    go_wp2_with fail
    refine (getBlob_lit _ _ _ [3, 97, 98] [] 0 3 _ _ _ (sl_lit_mark _ [3, 97, 98] 5 _) (by decide) (by omega) (by omega) (by decide)).mono ?_; rintro e w12 ⟨B12, m12, d12, rfl, hs, hn⟩
    have hb12 : Below w.heap.size w w12 := (hb11.alloc hb11.size _).trans (hn.mono (by simp; have := hb11.size; omega)); clear hn hb11
    clear hs
    go_wp2_with fail
    refine (getBlob_lit _ _ _ [0] [] 0 3 _ _ _ (sl_lit_mark _ [0] 5 _) (by decide) (by omega) (by omega) (by decide)).mono ?_; rintro e w13 ⟨B13, m13, d13, rfl, hs, hn⟩
    have hb13 : Below w.heap.size w w13 := (hb12.alloc hb12.size _).trans (hn.mono (by simp; have := hb12.size; omega)); clear hn hb12
    clear hs
    go_wp2_with fail
    refine (getBlob_lit _ _ _ [63, 0, 63] [] 2 0 _ _ _ (sl_lit_mark _ [63, 0, 63] 5 _) (by decide) (by omega) (by omega) (by decide)).mono ?_; rintro e w14 ⟨B14, m14, d14, rfl, hs, hn⟩
    have hb14 : Below w.heap.size w w14 := (hb13.alloc hb13.size _).trans (hn.mono (by simp; have := hb13.size; omega)); clear hn hb13
    have hm0 : m14 = 0 := hs.blen.symm
    subst hm0
    clear hs
    go_wp2_with fail
    refine (unseal_lit _ _ _ [1, 2, 3] [] 11 _ (sl_lit _ [1, 2, 3] 5) (by decide) (by decide +kernel)).mono ?_; rintro e w15 ⟨B15, m15, d15, rfl, hs, hn⟩; clear hs
    have hb15 : Below w.heap.size w w15 := (hb14.alloc hb14.size _).trans (hn.mono (by simp; have := hb14.size; omega)); clear hn hb14
    go_wp2_with fail
    refine (unseal_lit _ _ _ [1, 0, 0, 0, 0] [] 12 _ (sl_lit _ [1, 0, 0, 0, 0] 5) (by decide) (by decide +kernel)).mono ?_; rintro e w16 ⟨B16, m16, d16, rfl, hs, hn⟩; clear hs
    have hb16 : Below w.heap.size w w16 := (hb15.alloc hb15.size _).trans (hn.mono (by simp; have := hb15.size; omega)); clear hn hb15
    go_wp2_with fail
    refine (seal_lit _ _ _ [120] _ (sl_lit_mark _ [120] 5 _) (by decide)).mono ?_; rintro e w17 ⟨AS, nS, cS, rfl, hsq, hn⟩
    have hb17 : Below w.heap.size w w17 := (hb16.alloc hb16.size _).trans (hn.mono (by simp; have := hb16.size; omega)); clear hn hb16
    have hnS : nS ≤ 5 := by have := hsq.blen; simp [crc4] at this; omega
    obtain ⟨s5, hs5⟩ : ∃ s5, s5 = ([120] ++ crc4 (crc [120]) : List UInt8) := ⟨_, rfl⟩
    rw [← hs5] at hsq
    have hun : unsld s5 = ([120], 0) := by rw [hs5]; exact unsld_seal _
    have Hun := Lib.hid hun
    clear hs5 hun
    go_wp2_with fail
    refine (unseal_lit _ _ _ s5 [120] 0 _ hsq (by omega) Hun.out).mono ?_; rintro e w18 ⟨B18, m18, d18, rfl, hs, hn⟩; clear hsq
    have hb18 : Below w.heap.size w w18 := hb17.trans (hn.mono hb17.size); clear hn hb17
    have hcv : (convert 26 9 (.slice B18 m18 d18)).run Try.prog w18 = .ok (.string { data := #[120] }) w18 := run_str hs
    clear hs
    go_wp2_with fail
    refine (crc_lit _ _ _ [] _ (Sl.nil _ _) (by decide) 0 (by decide)).mono ?_; rintro e w19 ⟨rfl, hn⟩
    have hb19 : Below w.heap.size w w19 := hb18.trans (hn.mono hb18.size); clear hn hb18 hcv
    go_wp2_with fail
    refine (awake_any _).mono ?_; rintro e wz ⟨rfl, hn⟩
    go_wp2_with fail
    go_ret
    exact ⟨rfl, hb19.trans (hn.mono hb19.size)⟩
end Go.Proofs.Ytbnifagmbhiblaa
