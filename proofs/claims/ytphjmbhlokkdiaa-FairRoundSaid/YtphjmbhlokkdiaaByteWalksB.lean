import Derived.Test.YtphjmbhlokkdiaaByteWalks
namespace Go.Proofs.Ytphjmbhlokkdiaa
open Go.RowKit

theorem uint_at (base : Nat) (A : Option Addr) (n0 c : Nat) (l : List UInt8) (n : Nat) (N : Int) (w : World) (ha : App base 5 1 w A n0 c (bytesV l)) (hb : base ≤ w.heap.size)
    (hn : n < 18446744073709551616) (hl : n0 ≤ 140737488351232) (hN : N = (n : Int)) :
    Calls Try.prog 56 #[.slice A n0 c, .int .u64 N] w fun e w' => ∃ A' n' c', e = .returned (.slice A' n' c') ∧
      AppTo base 5 1 w w' A A' n' c' (bytesV (l ++ uv n)) := by
  subst hN; exact uint_any base A n0 c l n w ha hb hn hl

set_option maxHeartbeats 400000 in
theorem int_any (base : Nat) (A : Option Addr) (n0 c : Nat) (l : List UInt8) (i : Int) (w : World) (ha : App base 5 1 w A n0 c (bytesV l)) (hb : base ≤ w.heap.size)
    (h1 : -9223372036854775808 ≤ i) (h2 : i ≤ 9223372036854775807) (hl : n0 ≤ 140737488351232) :
    Calls Try.prog 57 #[.slice A n0 c, .int .i64 i] w fun e w' => ∃ A' n' c', e = .returned (.slice A' n' c') ∧
      AppTo base 5 1 w w' A A' n' c' (bytesV (l ++ uv (zz i))) := by
  have hz : zz i < 18446744073709551616 := by unfold zz; split <;> omega
  by_cases h0 : i < 0
  · have hzi : -(i + 1) * 2 + 1 = (zz i : Int) := by unfold zz; rw [if_pos h0]; omega
    have Hz := Lib.hid hzi
    clear hzi
    go_enter Try.func57, Try.ntmps57
    go_wp2_with (go_at_call 56; refine (uint_at base _ _ _ l (zz i) _ _ ha hb hz hl Hz.out).mono ?_; rintro e w' ⟨A', n', c', rfl, hto⟩)
    go_ret
    exact ⟨A', n', c', rfl, hto⟩
  · have hzi : i * 2 = (zz i : Int) := by unfold zz; rw [if_neg h0]; omega
    have Hz := Lib.hid hzi
    clear hzi
    go_enter Try.func57, Try.ntmps57
    go_wp2_with (go_at_call 56; refine (uint_at base _ _ _ l (zz i) _ _ ha hb hz hl Hz.out).mono ?_; rintro e w' ⟨A', n', c', rfl, hto⟩)
    go_ret
    exact ⟨A', n', c', rfl, hto⟩

set_option maxHeartbeats 400000 in
theorem blob_any (base : Nat) (A B : Option Addr) (n0 c m d : Nat) (l b : List UInt8) (w : World) (ha : App base 5 1 w A n0 c (bytesV l)) (hb : base ≤ w.heap.size)
    (hs : Sl w 1 B m d (bytesV b)) (hsep : ∀ ad, B = some ad → some ad.block ≠ rowOf base A)
    (hl : n0 ≤ 70368744175616) (hm : m ≤ 70368744175616) :
    Calls Try.prog 58 #[.slice A n0 c, .slice B m d] w fun e w' => ∃ A' n' c', e = .returned (.slice A' n' c') ∧
      AppTo base 5 1 w w' A A' n' c' (bytesV (l ++ (uv b.length ++ b))) := by
  have hbl := hs.blen
  have hll := ha.sl.blen
  have hu := uv_len_ten m (by omega)
  go_enter Try.func58, Try.ntmps58
  go_wp2_with (first | (go_at_call 56; refine (uint_at base _ _ _ l m _ _ ha hb (by omega) (by omega) rfl).mono ?_; rintro e w1 ⟨A1, n1, c1, rfl, hto⟩; have hn1 := hto.app.sl.blen; rw [List.length_append] at hn1) | (at_builtin; refine wpList_app _ rfl _ _ 27 rfl base 5 (.int .u8 0) 1 1 Try.underlying27 infoByte rfl (by decide) A1 n1 c1 (bytesV (l ++ uv m)) rfl hto.app B m d (bytesV b) rfl (hs.grown hto.grown hsep) (bytesV_one b) (by unfold maxLen; omega) (by omega) (by have := hto.grown.size; omega) ?_; intro A2 d2 w2 hat))
  go_ret
  refine ⟨A2, _, d2, rfl, ?_⟩
  rw [hbl, ← List.append_assoc, bytesV_append]
  exact hto.trans hat

set_option maxHeartbeats 400000 in
/-- two byte slices, one behind the other, in new memory -/
theorem both_any (A B : Option Addr) (n c m d : Nat) (l b : List UInt8) (w : World) (ha : Sl w 1 A n c (bytesV l)) (hs : Sl w 1 B m d (bytesV b))
    (hl : n ≤ 70368744175616) (hm : m ≤ 70368744175616) :
    Calls Try.prog 92 #[.slice A n c, .slice B m d] w fun e w' => e = .returned (.slice (some ⟨w.heap.size, 0, none⟩) (n + m) (n + m)) ∧
      w'.ownsRow w.heap.size 5 1 (.slice (some ⟨w.heap.size, 0, none⟩) (n + m) (n + m)) (n + m) (bytesV (l ++ b)) ∧ Below w.heap.size w w' := by
  obtain ⟨i0, hi, hz0, hz1, hz2⟩ := info_parts infoByte
  go_enter Try.func92, Try.ntmps92
  go_wp2_with (first | (at_make; refine wpList_make_own _ rfl _ _ 27 rfl w.heap.size 5 i0 (.int .u8 0) 1 Try.underlying27 hi hz0 hz1 _ _ _ (n + m) rfl rfl (by omega) (by rw [hz2]; omega) (by unfold maxLen; omega) (Nat.le_refl _) ?_; intro w1 hown1 hgrow1; have hb1 := grownBy_below hgrow1) | (at_builtin; refine wpList_append_fits_any _ rfl (.tmp 12) (.tmp 13) 27 rfl w.heap.size 5 i0 1 Try.underlying27 hi hz1 w.heap.size 0 (n + m) [] rfl hown1 A n c (bytesV l) rfl ha.len ha.none (fun ad had j u hj => by obtain ⟨ad', h1, h2⟩ := (ha.below hb1).cells j u hj; rw [had] at h1; cases h1; exact h2) (bytesV_one l) (by omega) ?_; intro w2 hown2 hgrow2; simp only [Nat.zero_add, List.nil_append] at hown2; have hb2 := hb1.trans ((Below.refl _ _).grown hgrow2 (by have := hb1.size; omega) (fun k hk => by cases hk; exact Nat.le_refl _))) | (at_builtin; refine wpList_append_fits_any _ rfl (.tmp 15) (.tmp 16) 27 rfl w.heap.size 5 i0 1 Try.underlying27 hi hz1 w.heap.size n (n + m) (bytesV l) rfl hown2 B m d (bytesV b) rfl hs.len hs.none (fun ad had j u hj => by obtain ⟨ad', h1, h2⟩ := (hs.below hb2).cells j u hj; rw [had] at h1; cases h1; exact h2) (bytesV_one b) (by omega) ?_; intro w3 hown3 hgrow3))
  go_ret
  exact ⟨by simp, by rw [bytesV_append]; exact hown3, hb2.trans ((Below.refl _ _).grown hgrow3 (by have := hb2.size; omega) (fun k hk => by cases hk; exact Nat.le_refl _))⟩

end Go.Proofs.Ytphjmbhlokkdiaa
