import Derived.Test.YtphjmbhlokkdiaaByteWalksB
namespace Go.Proofs.Ytphjmbhlokkdiaa
open Go.RowKit

/-- b[m:], b[l:m] of bytes -/
theorem cutb_from (kl : IntKind) (A : Option Addr) (n c m : Nat) (M : Int) (hM : M = (m : Int)) (hm : m ≤ n) :
    ∃ A' : Option Addr, (∀ W : World, (Instr.slice 27 (.slice A n c) (some (.int kl M)) none none).run Try.prog W = .ok (.slice A' (n - m) (c - m)) W) ∧ SameBlk A A' ∧
      ∀ (w : World) (l : List UInt8), Sl w 1 A n c (bytesV l) → Sl w 1 A' (n - m) (c - m) (bytesV (l.drop m)) := by
  obtain ⟨i0, hi, hz0, hz1, hz2⟩ := info_parts infoByte
  obtain ⟨A', hcut, hblk, hdr⟩ := cut_from (P := Try.prog) 27 5 kl Try.underlying27 hi A n c m M hM hm
  refine ⟨A', hcut, hblk, fun w l h => ?_⟩
  simp only [hz1, Nat.mul_one] at hdr
  rw [bytesV, List.map_drop]; exact hdr w _ h
theorem cutb_to (kl : IntKind) (A : Option Addr) (n c m : Nat) (M : Int) (hM : M = (m : Int)) (hm : m ≤ c) (W : World) :
    (Instr.slice 27 (.slice A n c) none (some (.int kl M)) none).run Try.prog W = .ok (.slice A m c) W := by
  obtain ⟨i0, hi, hz0, hz1, hz2⟩ := info_parts infoByte
  exact cut_to (P := Try.prog) 27 5 kl Try.underlying27 hi A n c m M hM hm W
theorem cutb_to_max (kl km : IntKind) (A : Option Addr) (n c m k : Nat) (M K : Int) (hM : M = (m : Int)) (hK : K = (k : Int)) (hm : m ≤ k) (hk : k ≤ c) (W : World) :
    (Instr.slice 27 (.slice A n c) none (some (.int kl M)) (some (.int km K))).run Try.prog W = .ok (.slice A m k) W := by
  obtain ⟨i0, hi, hz0, hz1, hz2⟩ := info_parts infoByte
  exact cut_to_max (P := Try.prog) 27 5 kl km Try.underlying27 hi A n c m k M K hM hK hm hk W
theorem cutb_mid (kl kh : IntKind) (A : Option Addr) (n c l m : Nat) (L M : Int) (hL : L = (l : Int)) (hM : M = (m : Int)) (hlm : l ≤ m) (hm : m ≤ n) (hc : n ≤ c) :
    ∃ A' : Option Addr, (∀ W : World, (Instr.slice 27 (.slice A n c) (some (.int kl L)) (some (.int kh M)) none).run Try.prog W = .ok (.slice A' (m - l) (c - l)) W) ∧ SameBlk A A' ∧
      ∀ (w : World) (b : List UInt8), Sl w 1 A n c (bytesV b) → Sl w 1 A' (m - l) (c - l) (bytesV ((b.take m).drop l)) := by
  obtain ⟨i0, hi, hz0, hz1, hz2⟩ := info_parts infoByte
  obtain ⟨A', hcut, hblk, hdr⟩ := cut_mid (P := Try.prog) 27 5 kl kh Try.underlying27 hi A n c l m L M hL hM hlm hm hc
  refine ⟨A', hcut, hblk, fun w b h => ?_⟩
  simp only [hz1, Nat.mul_one] at hdr
  rw [bytesV, List.map_drop, List.map_take]; exact hdr w _ h
theorem slb_to {w : World} {n c : Nat} {A : Option Addr} {b : List UInt8} (h : Sl w 1 A n c (bytesV b)) (m : Nat) (hm : m ≤ n) : Sl w 1 A m c (bytesV (b.take m)) := by
  have := h.to_ m hm
  rw [Nat.mul_one] at this
  rw [bytesV, List.map_take]; exact this

theorem pow_lt_u64 (k : Nat) (x : Nat) (hk : k ≤ 9) (hx : x < 128) (h9 : k = 9 → x ≤ 1) : x * 128 ^ k < 18446744073709551616 := by
  have h1 : (128 : Nat) ^ k ≤ 128 ^ 9 := Nat.pow_le_pow_right (by omega) hk
  by_cases h : k = 9
  · subst h
    have h2 : (128 : Nat) ^ 9 = 9223372036854775808 := by decide
    have := h9 rfl
    rw [h2]; omega
  · have h1 : (128 : Nat) ^ k ≤ 128 ^ 8 := Nat.pow_le_pow_right (by omega) (by omega)
    have h2 : (128 : Nat) ^ 8 = 72057594037927936 := by decide
    rw [h2] at h1
    have h3 : x * 128 ^ k ≤ 127 * 72057594037927936 := Nat.mul_le_mul (by omega) h1
    omega
theorem andNot_128 (x : UInt8) : Go.bits .andNot .u8 (x.toNat : Int) 128 = ((x.toNat % 128 : Nat) : Int) := by
  have : ∀ k : Fin 256, Go.bits .andNot .u8 ((k.val : Nat) : Int) 128 = ((k.val % 128 : Nat) : Int) := by decide +kernel
  exact this ⟨x.toNat, x.toNat_lt⟩
/-- the sevens of a byte, put where they belong -/
theorem gu_or (acc : Nat) (x : UInt8) (k : Nat) (hk : k ≤ 9) (ha : acc < 128 ^ k) (hx : k = 9 → x.toNat % 128 ≤ 1) (X P : Int) (hX : X = (x.toNat : Int)) (hP : P = 2 ^ (7 * k)) :
    Go.bits .or .u64 (acc : Int) (IntKind.u64.wrap (IntKind.u64.wrap (Go.bits .andNot .u8 X 128) * P)) = ((acc + x.toNat % 128 * 128 ^ k : Nat) : Int) := by
  subst hX hP
  have hlt := pow_lt_u64 k (x.toNat % 128) hk (by omega) hx
  have e : (128 : Nat) ^ k = 2 ^ (7 * k) := by rw [Nat.pow_mul]
  have hacc : acc < 18446744073709551616 := by
    have h1 : (128 : Nat) ^ k ≤ 128 ^ 9 := Nat.pow_le_pow_right (by omega) hk
    have h2 : (128 : Nat) ^ 9 = 9223372036854775808 := by decide
    omega
  rw [andNot_128, wrap_u64_nat _ (by omega)]
  have h3 : ((x.toNat % 128 : Nat) : Int) * 2 ^ (7 * k) = ((x.toNat % 128 * 128 ^ k : Nat) : Int) := by rw [e]; simp
  rw [h3, wrap_u64_nat _ hlt, bits_or_u64 _ _ hacc hlt]
  congr 1
  rw [e] at ha ⊢
  rw [Nat.add_comm, Nat.mul_comm, Nat.or_comm]
  exact (Nat.two_pow_add_eq_or_of_lt ha (x.toNat % 128)).symm
theorem two_pow_63 (k : Nat) (h : (k : Int) = 9) : (9223372036854775808 : Int) = 2 ^ (7 * k) := by
  obtain rfl : k = 9 := by omega
  decide
theorem ret_uii {k1 : IntKind} {a b c : Int} {g : Nat × Nat × Nat} (h1 : a = g.1) (h2 : b = g.2.1) (h3 : c = g.2.2) :
    Ending.returned (.tuple #[.int k1 a, .int .i64 b, .int .i64 c]) = .returned (.tuple #[.int k1 (g.1 : Nat), .int .i64 (g.2.1 : Nat), .int .i64 (g.2.2 : Nat)]) := by rw [h1, h2, h3]

set_option maxRecDepth 100000 in
set_option maxHeartbeats 1000000 in
theorem getUint_any (A : Option Addr) (n c : Nat) (l : List UInt8) (at_ : Int) (w : World) (hs : Sl w 1 A n c (bytesV l)) (hl : n ≤ 140737488351232) :
    Calls Try.prog 94 #[.slice A n c, .int .i64 at_] w fun e w' => e = .returned (.tuple #[.int .u64 ((gu l at_).1 : Nat), .int .i64 ((gu l at_).2.1 : Nat), .int .i64 ((gu l at_).2.2 : Nat)]) ∧ w = w' := by
  have hlen := hs.blen
  by_cases h0 : at_ < 0
  · have he : gu l at_ = (0, 0, 2) := by unfold gu; rw [if_pos (Or.inl h0)]
    rw [he]; clear he
    go_enter Try.func94, Try.ntmps94
    go_wp2
    go_ret3
    exact ⟨rfl, rfl⟩
  · by_cases h1 : (n : Int) < at_
    · have he : gu l at_ = (0, 0, 2) := by unfold gu; rw [if_pos (Or.inr (by omega))]
      rw [he]; clear he
      go_enter Try.func94, Try.ntmps94
      go_wp2
      go_ret3
      exact ⟨rfl, rfl⟩
    · obtain ⟨k0, rfl⟩ : ∃ k : Nat, at_ = (k : Int) := ⟨at_.toNat, by omega⟩
      obtain ⟨A', hcut, _, hdr⟩ := cutb_from .i64 A n c k0 _ rfl (by omega)
      have hs' := hdr w _ hs
      have hb' := hs'.byte
      have hl' := Lib.hid hs'.blen
      clear hdr
      obtain ⟨r, hr⟩ : ∃ r, r = guL 0 (l.drop k0) 0 := ⟨_, rfl⟩
      have he : gu l k0 = if r.2.2 = 0 then (r.1, k0 + r.2.1, 0) else (0, 0, r.2.2) := by
        unfold gu; rw [if_neg (by omega)]; simp only [Int.toNat_natCast, ← hr]
      obtain ⟨g, hge⟩ : ∃ g, g = gu l k0 := ⟨_, rfl⟩
      rw [← hge] at he ⊢
      have He := Lib.hid he
      clear he hge
      go_enter Try.func94, Try.ntmps94
      go_wp2
      have Hr := Lib.hid hr
      clear hr hcut hs'
      go_loop [7, 23] (fun v i => ∃ k acc : Nat, k ≤ n - k0 ∧ k ≤ 9 ∧ i = .int .i64 k ∧ v = .int .u64 acc ∧ acc < 128 ^ k ∧ guL k ((l.drop k0).drop k) acc = r) (fun _ i => (n - k0) - (intOf i).toNat)
      case atStart => exact ⟨0, 0, by omega, by omega, rfl, rfl, by simp, by rw [Hr.out]; rfl⟩
      case round =>
        obtain ⟨k, acc, hk, hk9, rfl, rfl, hacc, hg⟩ := hrel
        have Hacc := Lib.hid hacc
        have Hg := Lib.hid hg
        clear hacc hg
        by_cases hlt : k < n - k0
        · have hkl : k < (l.drop k0).length := by have := hl'.out; omega
          obtain ⟨ad, rfl, hc⟩ := hb' k hkl
          obtain ⟨x, hx⟩ : ∃ x, x = (l.drop k0)[k] := ⟨_, rfl⟩
          rw [← hx] at hc
          have hxl := x.toNat_lt
          have hd : (l.drop k0).drop k = x :: (l.drop k0).drop (k + 1) := by rw [hx]; exact List.drop_eq_getElem_cons hkl
          rw [hd, guL] at Hg
          have Hx := Lib.hid hx
          clear hx hd hb'
          by_cases c1 : k = 9 ∧ 1 < x.toNat
          · rw [if_pos (Or.inl c1)] at Hg
            have Hge : Hid (g = (0, 0, 10)) := by have h1 := He.out; rw [← Hg.out] at h1; exact h1
            have c5 : 9 ≤ k := by omega
            have c6 : 1 < x.toNat := c1.2
            clear He Hg c1
            by_cases c2 : x.toNat < 128
            all_goals
              go_wp2
              go_ret3
              exact ⟨by rw [Hge.out]; rfl, rfl⟩
          · by_cases c2 : x.toNat = 0 ∧ 0 < k
            · rw [if_pos (Or.inr c2)] at Hg
              have Hge : Hid (g = (0, 0, 10)) := by have h1 := He.out; rw [← Hg.out] at h1; exact h1
              have c3 : x.toNat ≤ 0 := by omega
              have c4 : 0 < k := c2.2
              clear He Hg c1 c2
              by_cases c5 : k < 9
              all_goals
                go_wp2
                go_ret3
                exact ⟨by rw [Hge.out]; rfl, rfl⟩
            · rw [if_neg (by omega)] at Hg
              by_cases c3 : x.toNat < 128
              · rw [if_pos c3] at Hg
                have Hge : Hid (g = (acc + x.toNat * 128 ^ k, k0 + (k + 1), 0)) := by have h1 := He.out; rw [← Hg.out] at h1; exact h1
                have c4 : k = 9 → x.toNat ≤ 1 := by omega
                clear He Hg
                go_wp2
                all_goals
                  go_ret3
                  refine ⟨ret_uii ((gu_or acc x k hk9 Hacc.out (by omega) _ _ (by first | rfl | omega) (by first | rfl | exact two_pow_63 k (by assumption))).trans ?_) (by rw [Hge.out]; simp; omega) (by rw [Hge.out]; rfl), rfl⟩
                  rw [Hge.out, Nat.mod_eq_of_lt c3]
              · rw [if_neg c3] at Hg
                have c4 : k < 9 := by omega
                have c6 : 0 < x.toNat := by omega
                clear c1 c2
                go_wp2
                go_round
                case rel =>
                  refine ⟨k + 1, acc + (x.toNat - 128) * 128 ^ k, by omega, by omega, by go_num, ?_, ?_, Hg.out⟩
                  · rw [gu_or acc x k hk9 Hacc.out (by omega) _ _ rfl rfl, show x.toNat % 128 = x.toNat - 128 by omega]
                  · have h1 := Hacc.out
                    rw [Nat.pow_succ]
                    have h2 : (x.toNat - 128) * 128 ^ k ≤ 127 * 128 ^ k := Nat.mul_le_mul_right _ (by omega)
                    omega
                case measure => simp [intOf]; omega
        · have Hge : Hid (g = (0, 0, 11)) := by
            have h1 := Hg.out
            rw [List.drop_eq_nil_of_le (by have := hl'.out; omega), guL] at h1
            have h2 := He.out; rw [← h1] at h2; exact h2
          go_wp2
          go_ret3
          exact ⟨by rw [Hge.out]; rfl, rfl⟩
end Go.Proofs.Ytphjmbhlokkdiaa
