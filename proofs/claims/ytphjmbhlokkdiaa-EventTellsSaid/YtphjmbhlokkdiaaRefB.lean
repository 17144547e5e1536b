import Derived.Test.YtphjmbhlokkdiaaRefA
namespace Go.Proofs.Ytphjmbhlokkdiaa
open Go.RowKit
set_option linter.unusedSimpArgs false
set_option linter.unusedVariables false

set_option maxHeartbeats 400000 in
theorem refGetInt_any (A : Option Addr) (n c : Nat) (l : List UInt8) (at_ : Int) (w : World) (hs : Sl w 1 A n c (bytesV l)) (hl : n ≤ 140737488351232) :
    Calls Try.prog 75 #[.slice A n c, .int .i64 at_] w fun e w' => e = .returned (.tuple #[.int .i64 (gi l at_).1, .int .i64 ((gi l at_).2.1 : Nat), .int .i64 ((gi l at_).2.2 : Nat)]) ∧ w = w' := by
  obtain ⟨g, hg⟩ : ∃ g, g = gu l at_ := ⟨_, rfl⟩
  have hlt : g.1 < 18446744073709551616 := by rw [hg]; exact gu_lt l at_
  have her : g.2.2 ≠ 0 → g.1 = 0 ∧ g.2.1 = 0 := by rw [hg]; exact gu_err l at_
  unfold gi
  rw [← hg]
  obtain ⟨g1, g2, g3⟩ := g
  have Hg := Lib.hid hg
  clear hg
  simp only at hlt her ⊢
  by_cases h0 : g3 = 0
  · subst h0
    clear her
    by_cases h1 : g1 % 2 = 1
    · rw [if_pos h1]
      have h2 : ((g1 : Int).tmod 2 == 0) = false := by rw [Int.tmod_eq_emod_of_nonneg (by omega)]; simp; omega
      go_enter Try.func75, Try.ntmps75
      go_wp2_with (go_at_call 76; refine (refGetUint_any _ _ _ l _ _ hs hl).mono ?_; rintro e w' ⟨rfl, rfl⟩; rw [← Hg.out])
      go_ret3
      exact ⟨ret_iii (by omega) rfl rfl, rfl⟩
    · rw [if_neg h1]
      have h2 : ((g1 : Int).tmod 2 == 0) = true := by rw [Int.tmod_eq_emod_of_nonneg (by omega)]; simp; omega
      go_enter Try.func75, Try.ntmps75
      go_wp2_with (go_at_call 76; refine (refGetUint_any _ _ _ l _ _ hs hl).mono ?_; rintro e w' ⟨rfl, rfl⟩; rw [← Hg.out])
      go_ret3
      exact ⟨ret_iii (by omega) rfl rfl, rfl⟩
  · obtain ⟨r1, r2⟩ := her h0
    subst r1
    subst r2
    have h0' : 0 < g3 := by omega
    clear h0 her
    go_enter Try.func75, Try.ntmps75
    go_wp2_with (go_at_call 76; refine (refGetUint_any _ _ _ l _ _ hs hl).mono ?_; rintro e w' ⟨rfl, rfl⟩; rw [← Hg.out])
    go_ret3
    exact ⟨ret_iii (by simp) rfl rfl, rfl⟩

set_option maxRecDepth 100000 in
set_option maxHeartbeats 1000000 in
theorem refGetBlob_any (A : Option Addr) (n c : Nat) (l : List UInt8) (at_ most : Int) (w : World) (hs : Sl w 1 A n c (bytesV l)) (hl : n ≤ 1000000) (hm : -9223372036854775808 ≤ most) (hm2 : most ≤ 9223372036854775807) :
    Calls Try.prog 77 #[.slice A n c, .int .i64 at_, .int .i64 most] w fun e w' => ∃ A' n' c', e = .returned (.tuple #[.slice A' n' c', .int .i64 ((gb l at_ most).2.1 : Nat), .int .i64 ((gb l at_ most).2.2 : Nat)]) ∧
      Sl w' 1 A' n' c' (bytesV (gb l at_ most).1) ∧ Below w.heap.size w w' := by
  obtain ⟨g, hg⟩ : ∃ g, g = gu l at_ := ⟨_, rfl⟩
  have hlt : g.1 < 18446744073709551616 := by rw [hg]; exact gu_lt l at_
  have hnx : g.2.1 ≤ n := by rw [hg, ← hs.blen]; exact gu_next l at_
  obtain ⟨q, hq⟩ : ∃ q, q = gb l at_ most := ⟨_, rfl⟩
  have hq' := hq
  unfold gb at hq'
  rw [← hg, hs.blen] at hq'
  rw [← hq]
  obtain ⟨g1, g2, g3⟩ := g
  have Hg := Lib.hid hg
  clear hg hq
  simp only at hlt hnx hq'
  by_cases h1 : g3 ≠ 0
  · rw [if_pos h1] at hq'
    subst hq'
    have h1' : 0 < g3 := by omega
    clear h1
    go_enter Try.func77, Try.ntmps77
    go_wp2_with (go_at_call 76; refine (refGetUint_any _ _ _ l _ _ hs (by omega)).mono ?_; rintro e w' ⟨rfl, rfl⟩; rw [← Hg.out])
    go_ret3
    exact ⟨none, 0, 0, rfl, Sl.nil _ _, Below.refl _ _⟩
  · rw [if_neg h1] at hq'
    have hg3 : g3 = 0 := by omega
    subst hg3
    clear h1
    by_cases h2 : most < 0
    · rw [if_pos (.inl h2)] at hq'
      subst hq'
      go_enter Try.func77, Try.ntmps77
      go_wp2_with (go_at_call 76; refine (refGetUint_any _ _ _ l _ _ hs (by omega)).mono ?_; rintro e w' ⟨rfl, rfl⟩; rw [← Hg.out])
      go_ret3
      exact ⟨none, 0, 0, rfl, Sl.nil _ _, Below.refl _ _⟩
    · obtain ⟨K, rfl⟩ := Int.eq_ofNat_of_zero_le (show 0 ≤ most by omega)
      by_cases h3 : K < g1
      · rw [if_pos (.inr (by omega))] at hq'
        subst hq'
        go_enter Try.func77, Try.ntmps77
        go_wp2_with (go_at_call 76; refine (refGetUint_any _ _ _ l _ _ hs (by omega)).mono ?_; rintro e w' ⟨rfl, rfl⟩; rw [← Hg.out])
        go_ret3
        exact ⟨none, 0, 0, rfl, Sl.nil _ _, Below.refl _ _⟩
      · rw [if_neg (by omega)] at hq'
        have Hq := Lib.hid hq'
        clear hq' h2
        go_enter Try.func77, Try.ntmps77
        go_wp2_with (go_at_call 76; refine (refGetUint_any _ _ _ l _ _ hs (by omega)).mono ?_; rintro e w' ⟨rfl, rfl⟩; rw [← Hg.out])
        go_loopw [12] (fun iv wx => ∃ i : Nat, i ≤ g1 ∧ g2 + i ≤ n ∧ iv = .int .u64 (i : Int) ∧ wx = w) (fun iv _ => n - (intOf iv).toNat)
        case atStart => exact ⟨0, by omega, by omega, rfl, rfl⟩
        case round =>
          obtain ⟨i, hi, hin, rfl, rfl⟩ := hrel
          by_cases c1 : i < g1
          · have hw1 : IntKind.i64.wrap ((g2 : Int) + (i : Int)) = (g2 : Int) + (i : Int) := IntWalk.i64_in _ (by omega)
            by_cases c2 : g2 + i < n
            · go_wp2_with fail
              go_roundw
              case rel => exact ⟨i + 1, by omega, by omega, by go_num, by first | trivial | rfl⟩
              case measure => simp [intOf]; omega
            · have hqe : q = ([], 0, 11) := by rw [Hq.out, if_pos (by omega)]
              have Hq2 := Lib.hid hqe
              clear hqe Hq
              go_wp2_with fail
              go_ret3
              refine ⟨none, 0, 0, ?_, ?_, Below.refl _ _⟩
              · rw [Hq2.out]; rfl
              · rw [Hq2.out]; exact Sl.nil _ _
          · obtain rfl : i = g1 := by omega
            have hqe : q = ((l.drop g2).take i, g2 + i, 0) := by rw [Hq.out, if_neg (by omega)]
            have Hq2 := Lib.hid hqe
            have hw1 : IntKind.i64.wrap ((g2 : Int) + (i : Int)) = (g2 : Int) + (i : Int) := IntWalk.i64_in _ (by omega)
            obtain ⟨A', hcut, _, hdr⟩ := cutb_mid .i64 .i64 A n c g2 (g2 + i) (g2 : Int) ((g2 : Int) + (i : Int)) rfl (by simp) (by omega) hin hs.le
            have hsd := hdr _ _ hs
            rw [show g2 + i - g2 = i by omega] at hcut hsd
            have hli : i ≤ 1000000 := by omega
            have hsn := Sl.nil wr 1
            rw [show ([] : List Value) = bytesV [] from rfl] at hsn
            clear hdr hqe Hq
            go_wp2_with (go_at_call 92; refine (both_any _ _ _ _ _ _ [] ((l.take (g2 + i)).drop g2) _ hsn hsd (by omega) (by omega)).mono ?_; rintro e w7 ⟨rfl, hown, hb⟩)
            go_ret3
            refine ⟨some ⟨wr.heap.size, 0, none⟩, i, i, ?_, ?_, hb⟩
            · rw [Hq2.out]; simp
            · rw [Hq2.out]
              have h5 := ownsRow_sl hown
              rw [List.nil_append] at h5
              simp only [Nat.zero_add] at h5
              have h6 : (l.take (g2 + i)).drop g2 = (l.drop g2).take i := by rw [List.drop_take, show g2 + i - g2 = i by omega]
              rw [h6] at h5
              exact h5
end Go.Proofs.Ytphjmbhlokkdiaa
