import Derived.Test.YtphjmbhlokkdiaaByteWalksC
namespace Go.Proofs.Ytphjmbhlokkdiaa
open Go.RowKit

theorem ret_iii {k1 : IntKind} {a b c a' b' c' : Int} (h1 : a = a') (h2 : b = b') (h3 : c = c') :
    Ending.returned (.tuple #[.int k1 a, .int .i64 b, .int .i64 c]) = .returned (.tuple #[.int k1 a', .int .i64 b', .int .i64 c']) := by rw [h1, h2, h3]

set_option maxHeartbeats 400000 in
theorem getInt_any (A : Option Addr) (n c : Nat) (l : List UInt8) (at_ : Int) (w : World) (hs : Sl w 1 A n c (bytesV l)) (hl : n ≤ 140737488351232) :
    Calls Try.prog 95 #[.slice A n c, .int .i64 at_] w fun e w' => e = .returned (.tuple #[.int .i64 (gi l at_).1, .int .i64 ((gi l at_).2.1 : Nat), .int .i64 ((gi l at_).2.2 : Nat)]) ∧ w = w' := by
  obtain ⟨g, hg⟩ : ∃ g, g = gu l at_ := ⟨_, rfl⟩
  have hlt : g.1 < 18446744073709551616 := by rw [hg]; exact gu_lt l at_
  unfold gi
  rw [← hg]
  obtain ⟨g1, g2, g3⟩ := g
  have Hg := Lib.hid hg
  clear hg
  simp only at hlt ⊢
  by_cases h1 : g1 % 2 = 1
  · rw [if_pos h1]
    go_enter Try.func95, Try.ntmps95
    go_wp2_with (go_at_call 94; refine (getUint_any _ _ _ l _ _ hs hl).mono ?_; rintro e w' ⟨rfl, rfl⟩; rw [← Hg.out])
    go_ret3
    exact ⟨ret_iii (by omega) rfl rfl, rfl⟩
  · rw [if_neg h1]
    go_enter Try.func95, Try.ntmps95
    go_wp2_with (go_at_call 94; refine (getUint_any _ _ _ l _ _ hs hl).mono ?_; rintro e w' ⟨rfl, rfl⟩; rw [← Hg.out])
    go_ret3
    exact ⟨ret_iii (by omega) rfl rfl, rfl⟩

theorem own_made (w : World) (e : TypeId) (base : Nat) (n c : Nat) (A : Option Addr) (xs : List Value) (h : w.ownsRow base e 1 (.slice A n c) n xs) : Sl w 1 A n c xs := ownsRow_sl h

set_option maxRecDepth 100000 in
set_option maxHeartbeats 1000000 in
theorem getBlob_any (A : Option Addr) (n c : Nat) (l : List UInt8) (at_ most : Int) (w : World) (hs : Sl w 1 A n c (bytesV l)) (hl : n ≤ 140737488351232) (hm : -9223372036854775808 ≤ most) (hm2 : most ≤ 9223372036854775807) :
    Calls Try.prog 96 #[.slice A n c, .int .i64 at_, .int .i64 most] w fun e w' => ∃ A' n' c', e = .returned (.tuple #[.slice A' n' c', .int .i64 ((gb l at_ most).2.1 : Nat), .int .i64 ((gb l at_ most).2.2 : Nat)]) ∧
      w'.ownsRow w.heap.size 5 1 (.slice A' n' c') n' (bytesV (gb l at_ most).1) ∧ Below w.heap.size w w' := by
  obtain ⟨i0, hi, hz0, hz1, hz2⟩ := info_parts infoByte
  obtain ⟨g, hg⟩ : ∃ g, g = gu l at_ := ⟨_, rfl⟩
  have hlt : g.1 < 18446744073709551616 := by rw [hg]; exact gu_lt l at_
  have hnx : g.2.1 ≤ n := by rw [hg, ← hs.blen]; exact gu_next l at_
  obtain ⟨q, hq⟩ : ∃ q, q = gb l at_ most := ⟨_, rfl⟩
  have hq' := hq
  unfold gb at hq'
  rw [← hg, hs.blen] at hq'
  rw [← hq]
  obtain ⟨g1, g2, g3⟩ := g
  have Hg := Lib.hid hg
  clear hg hq
  simp only at hlt hnx hq'
  by_cases h1 : g3 ≠ 0
  · rw [if_pos h1] at hq'
    subst hq'
    have h1' : 0 < g3 := by omega
    clear h1
    go_enter Try.func96, Try.ntmps96
    go_wp2_with (go_at_call 94; refine (getUint_any _ _ _ l _ _ hs hl).mono ?_; rintro e w' ⟨rfl, rfl⟩; rw [← Hg.out])
    go_ret3
    exact ⟨none, 0, 0, rfl, World.ownsRow_nil _ _ _ _, Below.refl _ _⟩
  · rw [if_neg h1] at hq'
    have h1' : g3 ≤ 0 := by omega
    clear h1
    by_cases h2 : most < 0 ∨ most < (g1 : Int)
    · rw [if_pos h2] at hq'
      subst hq'
      by_cases h3 : most < 0
      all_goals
        go_enter Try.func96, Try.ntmps96
        go_wp2_with (go_at_call 94; refine (getUint_any _ _ _ l _ _ hs hl).mono ?_; rintro e w' ⟨rfl, rfl⟩; rw [← Hg.out])
        go_ret3
        exact ⟨none, 0, 0, rfl, World.ownsRow_nil _ _ _ _, Below.refl _ _⟩
    · rw [if_neg h2] at hq'
      have h3 : 0 ≤ most := by omega
      have h4 : (g1 : Int) ≤ most := by omega
      clear h2
      by_cases h5 : n - g2 < g1
      · rw [if_pos h5] at hq'
        subst hq'
        go_enter Try.func96, Try.ntmps96
        go_wp2_with (go_at_call 94; refine (getUint_any _ _ _ l _ _ hs hl).mono ?_; rintro e w' ⟨rfl, rfl⟩; rw [← Hg.out])
        go_ret3
        exact ⟨none, 0, 0, rfl, World.ownsRow_nil _ _ _ _, Below.refl _ _⟩
      · rw [if_neg h5] at hq'
        subst hq'
        obtain ⟨A', hcut, hblk, hdr⟩ := cutb_from .i64 A n c g2 _ rfl hnx
        have hd := hdr w _ hs
        clear hdr
        go_enter Try.func96, Try.ntmps96
        go_wp2_with (first | (go_at_call 94; refine (getUint_any _ _ _ l _ _ hs hl).mono ?_; rintro e w' ⟨rfl, rfl⟩; rw [← Hg.out]) | (at_make; refine wpList_make_full _ rfl _ _ 27 rfl w.heap.size 5 i0 (.int .u8 0) 1 Try.underlying27 hi hz0 hz1 _ _ _ _ g1 rfl rfl rfl rfl (by rw [hz2]; omega) (by unfold maxLen; omega) (Nat.le_refl _) ?_; intro w1 hown1 hgrow1; have hb1 := grownBy_below hgrow1) | (with_reducible refine wpList_copy_row rfl (.tmp 50) (.tmp 53) 27 27 rfl 5 Try.underlying27 (by rw [hi]; simp [hz1]) w.heap.size _ A' _ _ _ _ _ (bytesV (l.drop g2)) rfl rfl hown1 (hd.below hb1) (bytesV_one _) ?_; intro w2 hown2 hgrow2))
        go_ret3
        have hmin : min (n - g2) g1 = g1 := by omega
        rw [hmin] at hown2
        have hz : ((madeCells (Value.int .u8 0).cells (g1 * 1)).toList).drop g1 = [] := List.drop_eq_nil_of_le (by have := hown1.1; omega)
        rw [hz, List.append_nil] at hown2
        have ht : (bytesV (l.drop g2)).take g1 = bytesV ((l.drop g2).take g1) := by rw [bytesV, bytesV, List.map_take]
        rw [ht] at hown2
        refine ⟨_, g1, g1, ?_, hown2, hb1.trans ((Below.refl _ _).grown hgrow2 hb1.size (fun _ hk => rowOf_ge hk))⟩
        rw [hmin]; simp

/-- the check's four bytes, highest first -/
def crc4 (r : BitVec 32) : List UInt8 := [UInt8.ofNat (r.toNat / 16777216), UInt8.ofNat (r.toNat / 65536), UInt8.ofNat (r.toNat / 256), UInt8.ofNat r.toNat]

end Go.Proofs.Ytphjmbhlokkdiaa
