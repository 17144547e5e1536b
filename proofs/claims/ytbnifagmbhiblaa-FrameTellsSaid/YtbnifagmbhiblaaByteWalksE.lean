import Derived.Test.YtbnifagmbhiblaaByteWalksD
import Derived.Deep.QuietTactic
import Derived.BigQuiet
namespace Go.Proofs.Ytbnifagmbhiblaa
open Go.RowKit

theorem add_plain (g j : Nat) : (⟨g, 0, none⟩ : Addr).add j = ⟨g, j, none⟩ := by unfold Addr.add; split <;> simp_all

/-- what was sealed, and the error -/
def unsld (l : List UInt8) : List UInt8 × Nat :=
  if l.length < 4 then ([], 11)
  else if l.take (l.length - 4) ++ crc4 (crc (l.take (l.length - 4))) = l then (l.take (l.length - 4), 0) else ([], 12)

set_option maxRecDepth 100000 in
set_option maxHeartbeats 1000000 in
theorem unseal_any (A : Option Addr) (n c : Nat) (l : List UInt8) (w : World) (hs : Sl w 1 A n c (bytesV l)) (hl : n ≤ 140737488351232) :
    Calls Try.prog 26 #[.slice A n c] w fun e w' => ∃ A' n' c', e = .returned (.tuple #[.slice A' n' c', .int .i64 ((unsld l).2 : Nat)]) ∧
      App w.heap.size 5 1 w' A' n' c' (bytesV (unsld l).1) ∧ Below w.heap.size w w' := by
  have hbl := hs.blen
  obtain ⟨q, hq⟩ : ∃ q, q = unsld l := ⟨_, rfl⟩
  have hq' := hq
  unfold unsld at hq'
  rw [hbl] at hq'
  rw [← hq]
  by_cases h1 : n < 4
  · rw [if_pos h1] at hq'
    subst hq'
    go_enter Try.func26, Try.ntmps26
    go_wp2
    go_ret2
    exact ⟨none, 0, 0, rfl, App.nil _ _ _ _, Below.refl _ _⟩
  · rw [if_neg h1] at hq'
    obtain ⟨k, rfl⟩ : ∃ k, n = k + 4 := ⟨n - 4, by omega⟩
    rw [show k + 4 - 4 = k by omega] at hq'
    have Hq := Lib.hid hq'
    clear hq hq'
    have hcut := cutb_to .i64 A (k + 4) c k (k : Int) rfl (by have := hs.le; omega)
    have hneg : decide ((k : Int) < 0) = false := by simp
    go_enter Try.func26, Try.ntmps26
    go_wp2_with (go_at_call 25; refine (seal_any _ _ _ (l.take k) _ (slb_to hs k (by omega)) (by omega)).mono ?_; rintro e w1 ⟨rfl, hown, hb⟩)
    clear hneg hcut
    have hso := (ownsRow_sl hown).byte
    have hsb := (hs.below hb).byte
    obtain ⟨s, hsd⟩ : ∃ s, s = l.take k ++ crc4 (crc (l.take k)) := ⟨_, rfl⟩
    rw [← hsd] at hso
    have hsl : s.length = k + 4 := by rw [hsd]; simp [crc4]; omega
    have Hs := Lib.hid hsd
    have Hsl := Lib.hid hsl
    have Hbl := Lib.hid hbl
    clear hsd hsl hbl
    go_loopw [16] (fun i wr => ∃ j : Nat, j ≤ 4 ∧ i = .int .i64 j ∧ (∀ m, m < k + j → s[m]? = l[m]?) ∧ ∃ d, wr = w1.drewN d) (fun i _ => 4 - (intOf i).toNat)
    case atStart => exact ⟨0, by omega, rfl, fun m hm => by rw [Hs.out, List.getElem?_append_left (by rw [List.length_take, Hbl.out]; omega), List.getElem?_take, if_pos (by omega)], 0, rfl⟩
    case round =>
      obtain ⟨j, hj, rfl, heq, d, rfl⟩ := hrel
      have Heq := Lib.hid heq
      clear heq
      by_cases hlt : j < 4
      · obtain ⟨ad, rfl, hc1⟩ := hsb (k + j) (by rw [Hbl.out]; omega)
        obtain ⟨ad2, had2, hc2⟩ := hso (k + j) (by rw [Hsl.out]; omega)
        cases had2
        rw [add_plain] at hc2
        obtain ⟨x, hx⟩ : ∃ x, x = l[k + j]'(by rw [Hbl.out]; omega) := ⟨_, rfl⟩
        obtain ⟨y, hy⟩ : ∃ y, y = s[k + j]'(by rw [Hsl.out]; omega) := ⟨_, rfl⟩
        rw [← hx] at hc1
        rw [← hy] at hc2
        have Hx := Lib.hid hx
        have Hy := Lib.hid hy
        clear hx hy hsb hso
        have s1 : IntKind.i64.wrap ((k : Int) + (j : Int)) = (k : Int) + (j : Int) := IntWalk.i64_in _ (by omega)
        have s2 : (0 : Int) ≤ (k : Int) + (j : Int) := by omega
        have s3 : ((k : Int) + (j : Int)).toNat = k + j := by omega
        go_wp2
        go_quiet (fail)
        go_wp2
        · have hne : (((y.toNat : Int)) != (x.toNat : Int)) = true := by assumption
          have hq2 : q = ([], 12) := by
            have h1 := Hq.out
            rw [← Hs.out] at h1
            rw [if_neg] at h1
            · exact h1
            · intro he
              have hxy : y = x := by rw [Hx.out, Hy.out]; simp only [he]
              rw [hxy] at hne; simp at hne
          go_ret2
          exact ⟨none, 0, 0, by rw [hq2]; rfl, by rw [hq2]; exact App.nil _ _ _ _, below_drewN (below_drewN hb _) _⟩
        · have heq2 : (((y.toNat : Int)) != (x.toNat : Int)) = false := by assumption
          have hxy : y = x := by
            apply UInt8.toNat_inj.1
            have h1 := bne_eq_false_iff_eq.1 heq2; omega
          go_roundw
          case rel =>
            refine ⟨j + 1, by omega, by go_num, ?_, _, rfl⟩
            intro m hm
            by_cases hmj : m < k + j
            · exact Heq.out m hmj
            · obtain rfl : m = k + j := by omega
              rw [List.getElem?_eq_getElem (by rw [Hsl.out]; omega), List.getElem?_eq_getElem (by rw [Hbl.out]; omega), ← Hx.out, ← Hy.out, hxy]
          case measure => simp [intOf]; omega
      · obtain rfl : j = 4 := by omega
        have hq2 : q = (l.take k, 0) := by
          have h1 := Hq.out
          rw [← Hs.out] at h1
          rw [if_pos] at h1
          · exact h1
          · apply List.ext_getElem?
            intro m
            by_cases hm : m < k + 4
            · exact Heq.out m hm
            · rw [List.getElem?_eq_none (by rw [Hsl.out]; omega), List.getElem?_eq_none (by rw [Hbl.out]; omega)]
        have hcut2 := cutb_to_max .i64 .i64 (some ⟨w.heap.size, 0, none⟩) (k + 4) (k + 4) k k (k : Int) (k : Int) rfl rfl (Nat.le_refl _) (by omega)
        go_wp2
        go_ret2
        refine ⟨_, k, k, by rw [hq2]; rfl, ?_, below_drewN hb _⟩
        rw [hq2]
        have h2 := slb_to ((ownsRow_sl hown).below (below_drewN (Below.refl _ _) d)) k (by omega)
        rw [← Hs.out] at h2
        have h3 : s.take k = l.take k := by
          rw [Hs.out, List.take_append_of_le_length (by rw [List.length_take, Hbl.out]; omega), List.take_take, Nat.min_self]
        rw [h3] at h2
        exact .inr ⟨h2.cap (Nat.le_refl _) (by omega), rfl⟩
end Go.Proofs.Ytbnifagmbhiblaa
