import Derived.Test.YtphjmbhlokkdiaaRefB
import Derived.Test.YtphjmbhlokkdiaaRefC
namespace Go.Proofs.Ytphjmbhlokkdiaa
open Go.RowKit
set_option linter.unusedSimpArgs false
set_option linter.unusedVariables false

set_option maxHeartbeats 400000 in
theorem refUint_any (A : Option Addr) (n c : Nat) (l : List UInt8) (k : Nat) (K : Int) (w : World) (hs : Sl w 1 A n c (bytesV l)) (hn : n ≤ 1000000) (hk : k < 18446744073709551616) (hK : K = (k : Int)) :
    Calls Try.prog 69 #[.slice A n c, .int .u64 K] w fun e w' => ∃ A' m c', e = .returned (.slice A' m c') ∧ Sl w' 1 A' m c' (bytesV (l ++ uv k)) ∧ Below w.heap.size w w' := by
  subst hK
  have hu := uv_len_ten k hk
  go_enter Try.func69, Try.ntmps69
  go_wp2_with fail
  refine (refVarint_any k _ hk).mono ?_; rintro e w1 ⟨A1, m1, c1, rfl, happ, hb1⟩
  have hs1 := hs.below hb1
  have hs2 := happ.sl
  have hm1 : m1 ≤ 10 := by have := hs2.blen; omega
  clear happ
  go_wp2_with fail
  refine (both_any _ _ _ _ _ _ l (uv k) _ hs1 hs2 (by omega) (by omega)).mono ?_; rintro e w2 ⟨rfl, hown, hb2⟩
  go_wp2_with fail
  go_ret
  exact ⟨_, _, _, rfl, ownsRow_sl hown, hb1.trans (hb2.mono hb1.size)⟩

set_option maxRecDepth 100000 in
set_option maxHeartbeats 400000 in
theorem refInt_any (A : Option Addr) (n c : Nat) (l : List UInt8) (i : Int) (w : World) (hs : Sl w 1 A n c (bytesV l)) (hn : n ≤ 1000000) (h1 : -9223372036854775808 ≤ i) (h2 : i ≤ 9223372036854775807) :
    Calls Try.prog 70 #[.slice A n c, .int .i64 i] w fun e w' => ∃ A' m c', e = .returned (.slice A' m c') ∧ Sl w' 1 A' m c' (bytesV (l ++ uv (zz i))) ∧ Below w.heap.size w w' := by
  by_cases h : 0 ≤ i
  · obtain ⟨k, rfl⟩ := Int.eq_ofNat_of_zero_le h
    have hz : zz (k : Int) = 2 * k := by unfold zz; rw [if_neg (by omega)]; simp
    rw [hz]
    clear hz
    go_enter Try.func70, Try.ntmps70
    go_wp2_with fail
    refine (refUint_any _ _ _ l (2 * k) _ _ hs hn (by omega) (by omega)).mono ?_; rintro e w1 ⟨A1, m1, c1, rfl, hs1, hb1⟩
    go_wp2_with fail
    go_ret
    exact ⟨_, _, _, rfl, hs1, hb1⟩
  · have hz : zz i < 18446744073709551616 := by unfold zz; split <;> omega
    have hzi : 2 * -(i + 1) + 1 = (zz i : Int) := by unfold zz; rw [if_pos (by omega)]; omega
    have Hz := Lib.hid hzi
    clear hzi
    go_enter Try.func70, Try.ntmps70
    go_wp2_with fail
    refine (refUint_any _ _ _ l (zz i) _ _ hs hn hz (by have := Hz.out; omega)).mono ?_; rintro e w1 ⟨A1, m1, c1, rfl, hs1, hb1⟩
    go_wp2_with fail
    go_ret
    exact ⟨_, _, _, rfl, hs1, hb1⟩

set_option maxHeartbeats 400000 in
theorem refBlob_any (A B : Option Addr) (n c m d : Nat) (l b : List UInt8) (w : World) (hs : Sl w 1 A n c (bytesV l)) (ht : Sl w 1 B m d (bytesV b)) (hn : n ≤ 1000000) (hm : m ≤ 1000000) :
    Calls Try.prog 71 #[.slice A n c, .slice B m d] w fun e w' => ∃ A' m' c', e = .returned (.slice A' m' c') ∧ Sl w' 1 A' m' c' (bytesV (l ++ (uv b.length ++ b))) ∧ Below w.heap.size w w' := by
  have hu := uv_len_ten m (by omega)
  have Hb := Lib.hid ht.blen
  have Hl := Lib.hid hs.blen
  go_enter Try.func71, Try.ntmps71
  go_wp2_with fail
  refine (refUint_any _ _ _ l m _ _ hs hn (by omega) rfl).mono ?_; rintro e w1 ⟨A1, m1, c1, rfl, hs1, hb1⟩
  have ht1 := ht.below hb1
  have hm1 : m1 ≤ 1000010 := by have := hs1.blen; rw [List.length_append, Hl.out] at this; omega
  clear hs ht
  go_wp2_with fail
  refine (both_any _ _ _ _ _ _ (l ++ uv m) b _ hs1 ht1 (by omega) (by omega)).mono ?_; rintro e w2 ⟨rfl, hown, hb2⟩
  go_wp2_with fail
  go_ret
  have h3 := ownsRow_sl hown
  rw [List.append_assoc] at h3
  exact ⟨_, _, _, rfl, by rw [Hb.out]; exact h3, hb1.trans (hb2.mono hb1.size)⟩

end Go.Proofs.Ytphjmbhlokkdiaa
