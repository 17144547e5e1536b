import Derived.Test.YtcidifmikcnkcaaRingA
/- SameInts, SameTexts of two that are the same. -/
namespace Go.Proofs.Ytcidifmikcnkcaa
open Go.RowKit
set_option linter.unusedSimpArgs false
set_option linter.unusedVariables false

set_option maxRecDepth 100000 in
set_option maxHeartbeats 4000000 in
theorem sameInts_any (A B : Option Addr) (m d d2 : Nat) (l : List Int) (w : World) (hs : Sl w 1 A m d (intsL l)) (ht : Sl w 1 B m d2 (intsL l)) (hm : m ≤ 1000000) :
    Calls Try.prog 33 #[.slice A m d, .slice B m d2] w fun e w' => e = .returned (.bool true) ∧ Below w.heap.size w w' := by
  have hl := slI_len hs
  go_enter Try.func33, Try.ntmps33
  go_wp2_with fail
  go_loopw [5] (fun s5 wx => ∃ (k : Nat), k ≤ m ∧ s5 = .int .i64 (k : Int) ∧ Hid (Below w.heap.size w wx)) (fun iv _ => m - (intOf iv).toNat)
  case atStart => exact ⟨0, by omega, rfl, Lib.hid (Below.refl _ _)⟩
  case round =>
    obtain ⟨k, hk, rfl, HB⟩ := hrel
    rename World => wx
    by_cases hkm : k < m
    · obtain ⟨x, hx⟩ : ∃ x, l[k]? = some x := ⟨_, List.getElem?_eq_getElem (by omega)⟩
      obtain ⟨ad1, h11, h12⟩ := slI_cell (hs.below HB.out) hx
      obtain ⟨ad2, h21, h22⟩ := slI_cell (ht.below HB.out) hx
      subst h11; subst h21
      have hin : (0 : Int) ≤ (k : Int) ∧ (k : Int) < (m : Int) := by omega
      have hd : decide ((k : Int) < (m : Int)) = true := by simp; omega
      clear hx
      go_upto_region 4 with fail
      go_quiet (fail)
      go_wp2_with fail
      go_roundw
      case rel => exact ⟨k + 1, by omega, by go_num, Lib.hid (below_drewN HB.out _)⟩
      case measure => simp [intOf]; omega
    · obtain rfl : k = m := by omega
      have hd : decide ((k : Int) < (k : Int)) = false := by simp
      go_upto_region 4 with fail
      go_quiet (fail)
      go_wp2_with fail
      go_ret
      exact ⟨rfl, below_drewN HB.out _⟩
def strsL (l : List (List UInt8)) : List Value := l.map fun s => .string (bstr s)
theorem slT_cell {w : World} {A : Option Addr} {m d : Nat} {l : List (List UInt8)} (h : Sl w 1 A m d (strsL l)) {k : Nat} {x : List UInt8} (hk : l[k]? = some x) : ∃ ad, A = some ad ∧ w.cell? (ad.add k) = some (.string (bstr x)) :=
  h.cells k _ (by rw [strsL, List.getElem?_map, hk]; rfl)
theorem slT_len {w : World} {A : Option Addr} {m d : Nat} {l : List (List UInt8)} (h : Sl w 1 A m d (strsL l)) : l.length = m := by have := h.len; simpa [strsL] using this
set_option maxRecDepth 100000 in
set_option maxHeartbeats 4000000 in
theorem sameTexts_any (A B : Option Addr) (m d d2 : Nat) (l : List (List UInt8)) (w : World) (hs : Sl w 1 A m d (strsL l)) (ht : Sl w 1 B m d2 (strsL l)) (hm : m ≤ 1000000) :
    Calls Try.prog 15 #[.slice A m d, .slice B m d2] w fun e w' => e = .returned (.bool true) ∧ Below w.heap.size w w' := by
  have hl := slT_len hs
  go_enter Try.func15, Try.ntmps15
  go_wp2_with fail
  go_loopw [8] (fun s5 wx => ∃ (k : Nat), k ≤ m ∧ s5 = .int .i64 (k : Int) ∧ Hid (Below w.heap.size w wx)) (fun iv _ => m - (intOf iv).toNat)
  case atStart => exact ⟨0, by omega, rfl, Lib.hid (Below.refl _ _)⟩
  case round =>
    obtain ⟨k, hk, rfl, HB⟩ := hrel
    rename World => wx
    by_cases hkm : k < m
    · obtain ⟨x, hx⟩ : ∃ x, l[k]? = some x := ⟨_, List.getElem?_eq_getElem (by omega)⟩
      obtain ⟨ad1, h11, h12⟩ := slT_cell (hs.below HB.out) hx
      obtain ⟨ad2, h21, h22⟩ := slT_cell (ht.below HB.out) hx
      subst h11; subst h21
      have hin : (0 : Int) ≤ (k : Int) ∧ (k : Int) < (m : Int) := by omega
      have hne : ¬ k = m := by omega
      have hd : decide ((k : Int) = (m : Int)) = false := by simp; omega
      have hd2 : ((k : Int) == (m : Int)) = false := by simp; omega
      clear hx
      go_upto_region 4 with fail
      go_quiet (fail)
      go_wp2_with fail
      go_roundw
      case rel => exact ⟨k + 1, by omega, by go_num, Lib.hid (below_drewN HB.out _)⟩
      case measure => simp [intOf]; omega
    · obtain rfl : k = m := by omega
      go_wp2_with fail
      go_ret
      exact ⟨rfl, HB.out⟩
end Go.Proofs.Ytcidifmikcnkcaa
