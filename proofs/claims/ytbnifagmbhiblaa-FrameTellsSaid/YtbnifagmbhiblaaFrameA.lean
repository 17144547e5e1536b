import Derived.Test.YtbnifagmbhiblaaByteWalksE
import Derived.Test.YtbnifagmbhiblaaRegion
import Derived.WalkKit
import Derived.Lib.BufferMore
import Derived.BigQuiet
import Derived.Deep.QuietTactic
namespace Go.Proofs.Ytbnifagmbhiblaa
open Go.RowKit
set_option linter.unusedSimpArgs false
set_option linter.unusedVariables false

/-- bytes that are written out -/
theorem sl_new (w : World) (l : List UInt8) (e : TypeId) (n : Nat) (hn : l.length = n) : Sl (w.alloc (.cells (bytesV l).toArray e)) 1 (some ⟨w.heap.size, 0, none⟩) n n (bytesV l) := by
  subst hn
  refine ⟨fun j u hj => ⟨_, rfl, ?_⟩, by simp [bytesV], Nat.le_refl _, fun h => by cases h⟩
  rw [add_plain, cell_of_row _ w.heap.size j (bytesV l).toArray e (0, 0) (heap_alloc_new w _)]
  simpa using hj

theorem crc4_cells (r : BitVec 32) : (#[.int .u8 ((r.toNat : Int) / 16777216), .int .u8 ((r.toNat : Int) / 65536 % 256), .int .u8 ((r.toNat : Int) / 256 % 256), .int .u8 ((r.toNat : Int) % 256)] : Array Value) = (bytesV (crc4 r)).toArray := by
  have := r.isLt
  simp only [bytesV, crc4, byteV, List.map_cons, List.map_nil, UInt8.toNat_ofNat']
  congr 5 <;> omega

set_option maxHeartbeats 400000 in
theorem sum_any (A : Option Addr) (n c : Nat) (l : List UInt8) (w : World) (hs : Sl w 1 A n c (bytesV l)) (hl : n ≤ 140737488351232) :
    Calls Try.prog 61 #[.slice A n c] w fun e w' => e = .returned (.slice (some ⟨w.heap.size, 0, none⟩) 4 4) ∧ Sl w' 1 (some ⟨w.heap.size, 0, none⟩) 4 4 (bytesV (crc4 (crc l))) ∧ Below w.heap.size w w' := by
  go_enter Try.func61, Try.ntmps61
  go_wp2_with (go_at_call 23; refine (crc_any _ _ _ l _ hs hl).mono ?_; rintro e w' ⟨rfl, rfl⟩)
  go_ret
  rw [crc4_cells]
  exact ⟨rfl, sl_new w (crc4 (crc l)) 5 4 rfl, below_alloc1 _ _⟩

set_option maxHeartbeats 400000 in
theorem equal_any (A B : Option Addr) (n c m d : Nat) (l b : List UInt8) (w : World) (hs : Sl w 1 A n c (bytesV l)) (ht : Sl w 1 B m d (bytesV b)) (hl : n ≤ 140737488351232) (hm : m ≤ 140737488351232) :
    Calls Try.prog 62 #[.slice A n c, .slice B m d] w fun e w' => e = .returned (.bool (l == b)) ∧ Below w.heap.size w w' := by
  have hbl := hs.blen
  have hbb := ht.blen
  by_cases hnm : n = m
  · subst hnm
    have hr := hs.byte
    have hq := ht.byte
    have Hbl := Lib.hid hbl
    have Hbb := Lib.hid hbb
    clear hbl hbb
    go_enter Try.func62, Try.ntmps62
    go_wp2_with fail
    go_loopw [13] (fun i wr => ∃ k : Nat, k ≤ n ∧ i = .int .i64 k ∧ (∀ j, j < k → l[j]? = b[j]?) ∧ ∃ d, wr = w.drewN d) (fun i _ => n - (intOf i).toNat)
    case atStart => exact ⟨0, by omega, rfl, fun j hj => by omega, 0, rfl⟩
    case round =>
      obtain ⟨k, hk, rfl, heq, d, rfl⟩ := hrel
      have Heq := Lib.hid heq
      clear heq
      by_cases hlt : k < n
      · obtain ⟨ad, rfl, hc1⟩ := hr k (by rw [Hbl.out]; exact hlt)
        obtain ⟨ad2, rfl, hc2⟩ := hq k (by rw [Hbb.out]; exact hlt)
        obtain ⟨x, hx⟩ : ∃ x, x = l[k]'(by rw [Hbl.out]; exact hlt) := ⟨_, rfl⟩
        obtain ⟨y, hy⟩ : ∃ y, y = b[k]'(by rw [Hbb.out]; exact hlt) := ⟨_, rfl⟩
        rw [← hx] at hc1
        rw [← hy] at hc2
        have Hx := Lib.hid hx
        have Hy := Lib.hid hy
        clear hx hy hr hq
        have hk1 : (0 : Int) ≤ (k : Int) ∧ (k : Int) < (n : Int) := by omega
        go_wp2
        go_quiet (fail)
        go_wp2
        · have hne : (((x.toNat : Int)) != (y.toNat : Int)) = true := by assumption
          have : (l == b) = false := by
            have h1 : l ≠ b := by
              intro e
              have : x = y := by rw [Hx.out, Hy.out]; simp only [e]
              rw [this] at hne; simp at hne
            simp [h1]
          go_ret
          exact ⟨by rw [this]; rfl, below_drewN (below_drewN (Below.refl _ _) _) _⟩
        · have heq2 : (((x.toNat : Int)) != (y.toNat : Int)) = false := by assumption
          have hxy : x = y := by
            apply UInt8.toNat_inj.1
            have h1 := bne_eq_false_iff_eq.1 heq2; omega
          go_roundw
          case rel =>
            refine ⟨k + 1, by omega, by go_num, ?_, _, rfl⟩
            intro j hj
            by_cases hjk : j < k
            · exact Heq.out j hjk
            · obtain rfl : j = k := by omega
              rw [List.getElem?_eq_getElem (by rw [Hbl.out]; omega), List.getElem?_eq_getElem (by rw [Hbb.out]; omega), ← Hx.out, ← Hy.out, hxy]
          case measure => simp [intOf]; omega
      · obtain rfl : k = n := by omega
        have : (l == b) = true := by
          have h1 : l = b := by
            apply List.ext_getElem?
            intro j
            by_cases hj : j < k
            · exact Heq.out j hj
            · rw [List.getElem?_eq_none (by rw [Hbl.out]; omega), List.getElem?_eq_none (by rw [Hbb.out]; omega)]
          simp [h1]
        clear hr hq
        go_wp2
        go_ret
        exact ⟨by rw [this]; rfl, below_drewN (Below.refl _ _) _⟩
  · have : (l == b) = false := by
      have h1 : l ≠ b := by
        intro e; rw [e] at hbl; omega
      simp [h1]
    have H := Lib.hid this
    have hne : ((n : Int) != (m : Int)) = true := by simp; omega
    clear this
    go_enter Try.func62, Try.ntmps62
    go_wp2_with fail
    go_ret
    exact ⟨by rw [H.out]; rfl, Below.refl _ _⟩

set_option maxHeartbeats 400000 in
/-- a copy of bytes that are some -/
theorem clone_any (A : Addr) (n c : Nat) (l : List UInt8) (w : World) (hs : Sl w 1 (some A) n c (bytesV l)) (hl : n ≤ 70368744175616) :
    Calls Try.prog 63 #[.slice (some A) n c] w fun e w' => ∃ v, e = .returned v ∧ w'.ownsRow w.heap.size 5 1 v n (bytesV l) ∧ Below w.heap.size w w' := by
  obtain ⟨i0, hi, hz0, hz1, hz2⟩ := info_parts infoByte
  have hown : (w.alloc (.cells #[] 5)).ownsRow w.heap.size 5 1 (.slice (some ⟨w.heap.size, 0, none⟩) 0 0) 0 [] := World.ownsRow_lit w #[] 0 (Nat.le_refl _) (by unfold maxLen; omega) rfl
  have hb := below_alloc1 w (.cells #[] 5)
  have hnil : ∀ W, (binOp .eql 26 (.slice (some A) n c) (.slice none 0 0)).run Try.prog W = .ok (.bool false) W := fun W => Lib.run_eql_slice_some_nil W _ _ _ Try.underlying26
  go_enter Try.func63, Try.ntmps63
  go_wp2_with (at_builtin; refine wpList_append_own _ rfl _ _ 26 rfl w.heap.size 5 i0 (.int .u8 0) 1 1 Try.underlying26 hi hz0 hz1 hz2 rfl (by decide) _ 0 [] rfl hown A n c (bytesV l) rfl hs.len (fun j u hj => by obtain ⟨ad', h1, h2⟩ := (hs.below hb).cells j u hj; cases h1; exact h2) (bytesV_one l) (by unfold maxLen; omega) (by omega) (by simp) ?_; intro v' w2 hown2 hgrow2 hnil2)
  go_ret
  refine ⟨_, rfl, by simpa using hown2, hb.trans ((Below.refl _ _).grown hgrow2 (by simp) (fun k hk => by cases hk; exact Nat.le_refl _))⟩
end Go.Proofs.Ytbnifagmbhiblaa
