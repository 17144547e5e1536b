import Derived.Test.YtemegkapmgcffaaDkR
import Derived.Test.YtemegkapmgcffaaZeros
/- The disk: Concat of two. -/
namespace Go.Proofs.Ytemegkapmgcffaa
open Go.RowKit
set_option linter.unusedSimpArgs false
set_option linter.unusedVariables false

theorem own_cut0 {base n c : Nat} {w : World} {A : Option Addr} {cs : List Value} (h : Own base 5 1 w A n c cs) : Own base 5 1 w A 0 c [] := by
  refine ⟨rfl, ?_⟩
  rcases h.2 with ⟨h1, h2⟩ | ⟨g, cap, cur, h1, h2, h3, h4, h5, h6, h7⟩
  · subst h2
    exact .inl ⟨h1, rfl⟩
  · simp only [Value.slice.injEq] at h1
    obtain ⟨rfl, -, rfl⟩ := h1
    exact .inr ⟨g, c, cur, rfl, h2, h3, by omega, h5, h6, by simp⟩
set_option maxRecDepth 100000 in
set_option maxHeartbeats 4000000 in
theorem grow_any (n : Nat) (w : World) (hn : n ≤ 1000000000) :
    Calls Try.prog 127 #[.slice none 0 0, .int .i64 (n : Int)] w fun x w' => ∃ A c, x = .returned (.slice A 0 c) ∧ Own w.heap.size 5 1 w' A 0 c [] ∧ Below w.heap.size w w' := by
  obtain ⟨i0, hi, hz0, hz1, hz2⟩ := info_parts infoByteC
  by_cases h0 : n = 0
  · subst h0
    go_enter Try.func127, Try.ntmps127
    go_wp2_with fail
    go_ret
    exact ⟨none, 0, rfl, ⟨rfl, .inl ⟨rfl, rfl⟩⟩, Below.refl _ _⟩
  · obtain ⟨v', w3, hrun, o3, hg3, hob⟩ := run_append_own_zeros (P := Try.prog) w w.heap.size 22 3 22 5 i0 (.int .u8 0) 1 .i64 Try.underlying22 Try.underlying3 hi hz0 hz1 hz2 rfl rfl (.slice none 0 0) 0 [] ⟨rfl, .inl ⟨rfl, rfl⟩⟩ n (by omega) (by unfold maxLen; omega) (by omega) (Nat.le_refl _)
    obtain ⟨A3, c3, rfl, o4⟩ := ownsRow_sliceI o3
    have hle := o4.sl.le
    have hle3 : (0 : Int) ≤ (c3 : Int) := by omega
    have hpos : 0 < (n : Int) := by omega
    have HR := Lib.hid hrun
    have HO := Lib.hid (own_cut0 o4)
    have HB := Lib.hid ((Below.refl w.heap.size w).grown hg3 (Nat.le_refl _) (fun k hk => by simp [Value.ownBlock] at hk))
    clear hrun o3 o4 hg3 hob
    go_enter Try.func127, Try.ntmps127
    go_wp2_with (at_builtin; refine Lib.wpList_append_run _ rfl _ _ _ _ rfl _ _ rfl rfl _ _ HR.out ?_)
    go_ret
    exact ⟨A3, c3, rfl, HO.out, HB.out⟩
theorem run_append_own_sl {base n c m c' : Nat} {w : World} {A B : Option Addr} {l1 l2 : List UInt8} (ho : Own base 5 1 w A n c (bytesV l1)) (hs : Sl w 1 B m c' (bytesV l2)) (h1 : n + m ≤ 1000000000) (hbase : base ≤ w.heap.size) :
    ∃ A' d w', (Builtin.append_ #[22, 22] 22 #[.slice A n c, .slice B m c']).run Try.prog w = .ok (.slice A' (n + m) d) w' ∧ Own base 5 1 w' A' (n + m) d (bytesV (l1 ++ l2)) ∧ Below base w w' := by
  obtain ⟨i0, hi, hz0, hz1, hz2⟩ := info_parts infoByteC
  cases B with
  | none =>
    obtain ⟨rfl, rfl⟩ := hs.none rfl
    have hn : l2 = [] := List.eq_nil_of_length_eq_zero hs.blen
    subst hn
    exact ⟨A, c, w, run_append_owned_none (P := Try.prog) (w := w) base 22 22 5 i0 1 Try.underlying22 hi _ n _ ho, by rw [List.append_nil]; exact ho, Below.refl _ _⟩
  | some b =>
    obtain ⟨v', w', hrun, h2, h3, h4, h5⟩ := run_append_own_at (P := Try.prog) w base 22 22 5 i0 (.int .u8 0) 1 1 Try.underlying22 hi hz0 hz1 hz2 rfl (by decide) (.slice A n c) n (bytesV l1) ho b m c' (bytesV l2) hs.len
        (fun j u hj => by obtain ⟨ad, e, h⟩ := hs.cells j u hj; cases e; exact h) (bytesV_one l2) (by unfold maxLen; omega) (by omega) hbase
    obtain ⟨A', d, rfl, h6⟩ := ownsRow_sliceI h2
    exact ⟨A', d, w', hrun, by rw [bytesV_append]; exact h6, (Below.refl _ _).grown h3 hbase (fun q hq => ownBlock_ge ho hq)⟩
set_option maxRecDepth 100000 in
set_option maxHeartbeats 4000000 in
theorem concat_any (base r : Nat) (A1 A2 : Option Addr) (n1 c1 n2 c2 : Nat) (l1 l2 : List UInt8) (w : World) (hx0 : w.cell? ⟨r, 0, none⟩ = some (.slice A1 n1 c1)) (hx1 : w.cell? ⟨r, 1, none⟩ = some (.slice A2 n2 c2))
    (s1 : Sl w 1 A1 n1 c1 (bytesV l1)) (s2 : Sl w 1 A2 n2 c2 (bytesV l2)) (h1 : n1 ≤ 100000000) (h2 : n2 ≤ 100000000) (hbase : base ≤ w.heap.size) :
    Calls Try.prog 87 #[.slice (some ⟨r, 0, none⟩) 2 2] w fun x w' => ∃ A c, x = .returned (.slice A (n1 + n2) c) ∧ Own base 5 1 w' A (n1 + n2) c (bytesV (l1 ++ l2)) ∧ Below w.heap.size w w' := by
  obtain ⟨i0, hi, hz0, hz1, hz2⟩ := info_parts infoByteC
  go_enter Try.func87, Try.ntmps87
  go_wp2_with fail
  go_loopw [3, 11] (fun s3 s11 wx => w = wx ∧ ((s11 = .int .i64 0 ∧ s3 = .int .i64 0) ∨ (s11 = .int .i64 1 ∧ s3 = .int .i64 (n1 : Int)) ∨ (s11 = .int .i64 2 ∧ s3 = .int .i64 ((n1 + n2 : Nat) : Int)))) (fun _ iv _ => 2 - (intOf iv).toNat)
  case atStart => exact ⟨rfl, .inl ⟨rfl, rfl⟩⟩
  case round =>
    obtain ⟨rfl, ⟨rfl, rfl⟩ | ⟨rfl, rfl⟩ | ⟨rfl, rfl⟩⟩ := hrel
    · go_wp2_with fail
      go_roundw
      case rel => exact ⟨trivial, .inr (.inl ⟨rfl, rfl⟩)⟩
      case measure => simp [intOf]
    · go_wp2_with fail
      go_roundw
      case rel => exact ⟨trivial, .inr (.inr ⟨rfl, by simp⟩)⟩
      case measure => simp [intOf]
    · go_wp2_with fail
      refine (grow_any (n1 + n2) w (by omega)).mono ?_
      rintro x w2 ⟨A, c, rfl, ho, hb⟩
      have HB := Lib.hid hb
      have HO := Lib.hid ho
      clear ho hb
      clear hz0 hz1 hz2 hi
      go_wp2_with fail
      go_loopw [6, 27] (fun s6 s27 wx => ∃ (Aj : Option Addr) (cj j : Nat), s27 = .int .i64 (j : Int) ∧ Hid (Below w.heap.size w wx) ∧ ((j = 0 ∧ s6 = .slice Aj 0 cj ∧ Hid (Own w.heap.size 5 1 wx Aj 0 cj (bytesV []))) ∨ (j = 1 ∧ s6 = .slice Aj n1 cj ∧ Hid (Own w.heap.size 5 1 wx Aj n1 cj (bytesV l1))) ∨ (j = 2 ∧ s6 = .slice Aj (n1 + n2) cj ∧ Hid (Own w.heap.size 5 1 wx Aj (n1 + n2) cj (bytesV (l1 ++ l2)))))) (fun _ iv _ => 2 - (intOf iv).toNat)
      case atStart => exact ⟨A, c, 0, rfl, HB, .inl ⟨rfl, rfl, HO⟩⟩
      case round =>
        obtain ⟨Aj, cj, j, rfl, HBx, ⟨rfl, rfl, HOx⟩ | ⟨rfl, rfl, HOx⟩ | ⟨rfl, rfl, HOx⟩⟩ := hrel
        · have z0 := cellB HBx.out hx0
          have z1 := s1.below HBx.out
          obtain ⟨A', d, w5, hr, ho5, hb5⟩ := run_append_own_sl HOx.out z1 (by omega) HBx.out.size
          simp only [Nat.zero_add] at hr ho5
          have HR := Lib.hid hr
          have HO5 := Lib.hid (show Own w.heap.size 5 1 w5 A' n1 d (bytesV l1) by simpa using ho5)
          have HB5 := Lib.hid (HBx.out.trans hb5)
          clear hr ho5 hb5 z1
          go_wp2_with (at_builtin; refine Lib.wpList_append_run _ rfl _ _ _ _ rfl _ _ rfl rfl _ _ HR.out ?_)
          go_roundw
          case rel => exact ⟨A', d, 1, rfl, HB5, .inr (.inl ⟨rfl, rfl, HO5⟩)⟩
          case measure => simp [intOf]
        · have z0 := cellB HBx.out hx1
          have z1 := s2.below HBx.out
          obtain ⟨A', d, w5, hr, ho5, hb5⟩ := run_append_own_sl HOx.out z1 (by omega) HBx.out.size
          have HR := Lib.hid hr
          have HO5 := Lib.hid ho5
          have HB5 := Lib.hid (HBx.out.trans hb5)
          clear hr ho5 hb5 z1
          go_wp2_with (at_builtin; refine Lib.wpList_append_run _ rfl _ _ _ _ rfl _ _ rfl rfl _ _ HR.out ?_)
          go_roundw
          case rel => exact ⟨A', d, 2, rfl, HB5, .inr (.inr ⟨rfl, rfl, HO5⟩)⟩
          case measure => simp [intOf]
        · go_wp2_with fail
          go_ret
          exact ⟨Aj, cj, rfl, Own.lower HOx.out hbase, HBx.out⟩
end Go.Proofs.Ytemegkapmgcffaa
