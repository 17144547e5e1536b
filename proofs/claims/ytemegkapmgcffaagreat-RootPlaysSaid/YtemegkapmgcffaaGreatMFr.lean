import Derived.Test.YtemegkapmgcffaaGreatMBy
import Derived.Test.YtemegkapmgcffaaGreatMWa
import Derived.WalkKit
import Derived.Lib.BufferMore
import Derived.BigQuiet
import Derived.Deep.QuietTactic
import Derived.Deep.Onto
namespace Go.Proofs.YtemegkapmgcffaaGreat
open Go.RowKit
set_option linter.unusedSimpArgs false
set_option linter.unusedVariables false

/-- bytes that are written out -/
theorem sl_new (w : World) (l : List UInt8) (e : TypeId) (n : Nat) (hn : l.length = n) : Sl (w.alloc (.cells (bytesV l).toArray e)) 1 (some ⟨w.heap.size, 0, none⟩) n n (bytesV l) := by
  subst hn
  refine ⟨fun j u hj => ⟨_, rfl, ?_⟩, by simp [bytesV], Nat.le_refl _, fun h => by cases h⟩
  rw [add_plain, cell_of_row _ w.heap.size j (bytesV l).toArray e (0, 0) (heap_alloc_new w _)]
  simpa using hj

theorem crc4_cells (r : BitVec 32) : (#[.int .u8 ((r.toNat : Int) / 16777216), .int .u8 ((r.toNat : Int) / 65536 % 256), .int .u8 ((r.toNat : Int) / 256 % 256), .int .u8 ((r.toNat : Int) % 256)] : Array Value) = (bytesV (crc4 r)).toArray := by
  have := r.isLt
  simp only [bytesV, crc4, byteV, List.map_cons, List.map_nil, UInt8.toNat_ofNat']
  congr 5 <;> omega

set_option maxHeartbeats 400000 in
theorem sum_any (A : Option Addr) (n c : Nat) (l : List UInt8) (w : World) (hs : Sl w 1 A n c (bytesV l)) (hl : n ≤ 140737488351232) :
    Calls Tryz.prog 95 #[.slice A n c] w fun e w' => e = .returned (.slice (some ⟨w.heap.size, 0, none⟩) 4 4) ∧ Sl w' 1 (some ⟨w.heap.size, 0, none⟩) 4 4 (bytesV (crc4 (crc l))) ∧ Below w.heap.size w w' := by
  go_enter Tryz.func95, Tryz.ntmps95
  go_wp2_with (go_at_call 102; refine (crc_any _ _ _ l _ hs hl).mono ?_; rintro e w' ⟨rfl, rfl⟩)
  go_ret
  rw [crc4_cells]
  exact ⟨rfl, sl_new w (crc4 (crc l)) 5 4 rfl, below_alloc1 _ _⟩

set_option maxHeartbeats 400000 in
theorem equal_any (A B : Option Addr) (n c m d : Nat) (l b : List UInt8) (w : World) (hs : Sl w 1 A n c (bytesV l)) (ht : Sl w 1 B m d (bytesV b)) (hl : n ≤ 140737488351232) (hm : m ≤ 140737488351232) :
    Calls Tryz.prog 94 #[.slice A n c, .slice B m d] w fun e w' => e = .returned (.bool (l == b)) ∧ Below w.heap.size w w' := by
  have hbl := hs.blen
  have hbb := ht.blen
  by_cases hnm : n = m
  · subst hnm
    have hr := hs.byte
    have hq := ht.byte
    have Hbl := Lib.hid hbl
    have Hbb := Lib.hid hbb
    clear hbl hbb
    go_enter Tryz.func94, Tryz.ntmps94
    go_wp2_with fail
    go_loopw [13] (fun i wr => ∃ k : Nat, k ≤ n ∧ i = .int .i64 k ∧ (∀ j, j < k → l[j]? = b[j]?) ∧ ∃ d, wr = w.drewN d) (fun i _ => n - (intOf i).toNat)
    case atStart => exact ⟨0, by omega, rfl, fun j hj => by omega, 0, rfl⟩
    case round =>
      obtain ⟨k, hk, rfl, heq, d, rfl⟩ := hrel
      have Heq := Lib.hid heq
      clear heq
      by_cases hlt : k < n
      · obtain ⟨ad, rfl, hc1⟩ := hr k (by rw [Hbl.out]; exact hlt)
        obtain ⟨ad2, rfl, hc2⟩ := hq k (by rw [Hbb.out]; exact hlt)
        obtain ⟨x, hx⟩ : ∃ x, x = l[k]'(by rw [Hbl.out]; exact hlt) := ⟨_, rfl⟩
        obtain ⟨y, hy⟩ : ∃ y, y = b[k]'(by rw [Hbb.out]; exact hlt) := ⟨_, rfl⟩
        rw [← hx] at hc1
        rw [← hy] at hc2
        have Hx := Lib.hid hx
        have Hy := Lib.hid hy
        clear hx hy hr hq
        have hk1 : (0 : Int) ≤ (k : Int) ∧ (k : Int) < (n : Int) := by omega
        go_wp2
        go_quiet (fail)
        go_wp2
        · have hne : (((x.toNat : Int)) != (y.toNat : Int)) = true := by assumption
          have : (l == b) = false := by
            have h1 : l ≠ b := by
              intro e
              have : x = y := by rw [Hx.out, Hy.out]; simp only [e]
              rw [this] at hne; simp at hne
            simp [h1]
          go_ret
          exact ⟨by rw [this]; rfl, below_drewN (below_drewN (Below.refl _ _) _) _⟩
        · have heq2 : (((x.toNat : Int)) != (y.toNat : Int)) = false := by assumption
          have hxy : x = y := by
            apply UInt8.toNat_inj.1
            have h1 := bne_eq_false_iff_eq.1 heq2; omega
          go_roundw
          case rel =>
            refine ⟨k + 1, by omega, by go_num, ?_, _, rfl⟩
            intro j hj
            by_cases hjk : j < k
            · exact Heq.out j hjk
            · obtain rfl : j = k := by omega
              rw [List.getElem?_eq_getElem (by rw [Hbl.out]; omega), List.getElem?_eq_getElem (by rw [Hbb.out]; omega), ← Hx.out, ← Hy.out, hxy]
          case measure => simp [intOf]; omega
      · obtain rfl : k = n := by omega
        have : (l == b) = true := by
          have h1 : l = b := by
            apply List.ext_getElem?
            intro j
            by_cases hj : j < k
            · exact Heq.out j hj
            · rw [List.getElem?_eq_none (by rw [Hbl.out]; omega), List.getElem?_eq_none (by rw [Hbb.out]; omega)]
          simp [h1]
        clear hr hq
        go_wp2
        go_ret
        exact ⟨by rw [this]; rfl, below_drewN (Below.refl _ _) _⟩
  · have : (l == b) = false := by
      have h1 : l ≠ b := by
        intro e; rw [e] at hbl; omega
      simp [h1]
    have H := Lib.hid this
    have hne : ((n : Int) != (m : Int)) = true := by simp; omega
    clear this
    go_enter Tryz.func94, Tryz.ntmps94
    go_wp2_with fail
    go_ret
    exact ⟨by rw [H.out]; rfl, Below.refl _ _⟩

set_option maxHeartbeats 400000 in
/-- a copy of bytes that are some -/
theorem clone_any (A : Addr) (n c : Nat) (l : List UInt8) (w : World) (hs : Sl w 1 (some A) n c (bytesV l)) (hl : n ≤ 70368744175616) :
    Calls Tryz.prog 56 #[.slice (some A) n c] w fun e w' => ∃ v, e = .returned v ∧ w'.ownsRow w.heap.size 5 1 v n (bytesV l) ∧ Below w.heap.size w w' := by
  obtain ⟨i0, hi, hz0, hz1, hz2⟩ := info_parts infoByte
  have hown : (w.alloc (.cells #[] 5)).ownsRow w.heap.size 5 1 (.slice (some ⟨w.heap.size, 0, none⟩) 0 0) 0 [] := World.ownsRow_lit w #[] 0 (Nat.le_refl _) (by unfold maxLen; omega) rfl
  have hb := below_alloc1 w (.cells #[] 5)
  have hnil : ∀ W, (binOp .eql 34 (.slice (some A) n c) (.slice none 0 0)).run Tryz.prog W = .ok (.bool false) W := fun W => Lib.run_eql_slice_some_nil W _ _ _ Tryz.underlying34
  go_enter Tryz.func56, Tryz.ntmps56
  go_wp2_with (at_builtin; refine wpList_append_own _ rfl _ _ 34 rfl w.heap.size 5 i0 (.int .u8 0) 1 1 Tryz.underlying34 hi hz0 hz1 hz2 rfl (by decide) _ 0 [] rfl hown A n c (bytesV l) rfl hs.len (fun j u hj => by obtain ⟨ad', h1, h2⟩ := (hs.below hb).cells j u hj; cases h1; exact h2) (bytesV_one l) (by unfold maxLen; omega) (by omega) (by simp) ?_; intro v' w2 hown2 hgrow2 hnil2)
  go_ret
  refine ⟨_, rfl, by simpa using hown2, hb.trans ((Below.refl _ _).grown hgrow2 (by simp) (fun k hk => by cases hk; exact Nat.le_refl _))⟩
end Go.Proofs.YtemegkapmgcffaaGreat

namespace Go.Proofs.YtemegkapmgcffaaGreat
open Go.RowKit
set_option linter.unusedSimpArgs false
set_option linter.unusedVariables false

/-- a part that is put behind -/
structure Part where
  A : Option Addr
  n : Nat
  c : Nat
  l : List UInt8
def Part.v (q : Part) : Value := .slice q.A q.n q.c

theorem Sl.block_lt {n c : Nat} {w : World} {a : Addr} {cs : List Value} (hs : Sl w 1 (some a) n c cs) (hn : 0 < n) : a.block < w.heap.size := by
  obtain ⟨ad, h1, h2⟩ := hs.cells 0 (cs[0]'(by rw [hs.len]; omega)) (List.getElem?_eq_getElem _)
  cases h1
  have := World.block_lt_of_cell? w _ h2
  rwa [add_block] at this
theorem crc4_length' (r : BitVec 32) : (crc4 r).length = 4 := rfl
/-- a body's frame -/
def frm (b : List UInt8) : List UInt8 := uv b.length ++ (b ++ (crc4 (crc b) ++ [165]))

end Go.Proofs.YtemegkapmgcffaaGreat

namespace Go.Proofs.YtemegkapmgcffaaGreat
open Go.RowKit
set_option linter.unusedSimpArgs false
set_option linter.unusedVariables false

/-- reading a frame: the body, the place behind it, the error -/
def fg (l : List UInt8) (at_ : Int) : List UInt8 × Nat × Nat :=
  if (gu l at_).2.2 ≠ 0 then ([], 0, (gu l at_).2.2)
  else if (gu l at_).1 = 0 ∨ 1048576 < (gu l at_).1 then ([], 0, 10)
  else if l.length < (gu l at_).2.1 + (gu l at_).1 + 5 then ([], 0, 11)
  else if l[(gu l at_).2.1 + (gu l at_).1 + 4]? ≠ some 165 then ([], 0, 10)
  else if (l.drop ((gu l at_).2.1 + (gu l at_).1)).take 4 ≠ crc4 (crc ((l.take ((gu l at_).2.1 + (gu l at_).1)).drop (gu l at_).2.1)) then ([], 0, 12)
  else ((l.take ((gu l at_).2.1 + (gu l at_).1)).drop (gu l at_).2.1, (gu l at_).2.1 + (gu l at_).1 + 5, 0)

theorem own_form {w : World} {base n : Nat} {v : Value} {l : List UInt8} (h : w.ownsRow base 5 1 v n (bytesV l)) : ∃ A c, v = .slice A n c ∧ Sl w 1 A n c (bytesV l) ∧ w.ownsRow base 5 1 (.slice A n c) n (bytesV l) := by
  rcases h.2 with ⟨hv, hn⟩ | ⟨g, cap, cur, hv, _⟩
  · subst hv; subst hn; exact ⟨none, 0, rfl, ownsRow_sl h, h⟩
  · subst hv; exact ⟨_, cap, rfl, ownsRow_sl h, h⟩

set_option maxRecDepth 100000 in
set_option maxHeartbeats 1000000 in
theorem get_any (A : Option Addr) (n c : Nat) (l : List UInt8) (at_ : Int) (w : World) (hs : Sl w 1 A n c (bytesV l)) (hl : n ≤ 35184372088832) :
    Calls Tryz.prog 66 #[.slice A n c, .int .i64 at_] w fun e w' => ∃ v, e = .returned (.tuple #[v, .int .i64 ((fg l at_).2.1 : Nat), .int .i64 ((fg l at_).2.2 : Nat)]) ∧
      w'.ownsRow w.heap.size 5 1 v (fg l at_).1.length (bytesV (fg l at_).1) ∧ Below w.heap.size w w' := by
  have hlen := hs.blen
  have hlt := gu_lt l at_
  have hnx := gu_next l at_
  obtain ⟨q, hq⟩ : ∃ q, q = fg l at_ := ⟨_, rfl⟩
  rw [← hq]
  unfold fg at hq
  obtain ⟨⟨k, fr, er⟩, hg⟩ : ∃ g, g = gu l at_ := ⟨_, rfl⟩
  rw [← hg] at hq hlt hnx
  simp only at hq hlt hnx
  have Hg := Lib.hid hg
  have Hq := Lib.hid hq
  clear hg hq
  rw [hlen] at hnx
  by_cases he : er = 0
  · subst he
    have hq := Hq.out
    rw [if_neg (by simp)] at hq
    by_cases hk : k = 0 ∨ 1048576 < k
    · rw [if_pos hk] at hq
      subst hq
      by_cases hk0 : k = 0
      · subst hk0
        go_enter Tryz.func66, Tryz.ntmps66
        go_wp2_with (go_at_call 85; refine (getUint_any _ _ _ l _ _ hs (by omega)).mono ?_; rintro e w' ⟨rfl, rfl⟩; rw [← Hg.out]; dsimp only)
        go_ret3
        exact ⟨_, rfl, World.ownsRow_nil _ _ _ _, Below.refl _ _⟩
      · have hk0b : ((k : Int) == 0) = false := by simp; omega
        have hk1 : 1048576 < k := by omega
        go_enter Tryz.func66, Tryz.ntmps66
        go_wp2_with (go_at_call 85; refine (getUint_any _ _ _ l _ _ hs (by omega)).mono ?_; rintro e w' ⟨rfl, rfl⟩; rw [← Hg.out]; dsimp only)
        go_ret3
        exact ⟨_, rfl, World.ownsRow_nil _ _ _ _, Below.refl _ _⟩
    · rw [if_neg hk, hlen] at hq
      have hk0b : ((k : Int) == 0) = false := by simp; omega
      have hk1 : ¬ 1048576 < k := by omega
      by_cases hsh : n < fr + k + 5
      · rw [if_pos hsh] at hq
        subst hq
        have hsh2 : (n : Int) - (fr : Int) < (k : Int) + 5 := by omega
        go_enter Tryz.func66, Tryz.ntmps66
        go_wp2_with (go_at_call 85; refine (getUint_any _ _ _ l _ _ hs (by omega)).mono ?_; rintro e w' ⟨rfl, rfl⟩; rw [← Hg.out]; dsimp only)
        go_ret3
        exact ⟨_, rfl, World.ownsRow_nil _ _ _ _, Below.refl _ _⟩
      · rw [if_neg hsh] at hq
        have hsh2 : ¬ (n : Int) - (fr : Int) < (k : Int) + 5 := by omega
        have Hq2 := Lib.hid hq
        clear hq Hq
        obtain ⟨A1, hcut1, hblk1, hsl1⟩ := cutb_mid .i64 .i64 A n c fr (fr + k) (fr : Int) ((fr : Int) + (k : Int)) rfl (by omega) (by omega) (by omega) hs.le
        obtain ⟨A2, hcut2, hblk2, hsl2⟩ := cutb_from .i64 A n c (fr + k) ((fr : Int) + (k : Int)) (by omega) (by omega)
        have hs1 := hsl1 w l hs
        have hs2 := hsl2 w l hs
        have hw1 : IntKind.i64.wrap ((fr : Int) + (k : Int)) = (fr : Int) + (k : Int) := IntWalk.i64_in _ (by omega)
        have hw2 : IntKind.i64.wrap (k : Int) = (k : Int) := IntWalk.i64_in _ (by omega)
        go_enter Tryz.func66, Tryz.ntmps66
        go_wp2_with (go_at_call 85; refine (getUint_any _ _ _ l _ _ hs (by omega)).mono ?_; rintro e w' ⟨rfl, rfl⟩; rw [← Hg.out]; dsimp only)
        go_still (by kernel_rfl)
        change Exit.then _ _ Exit.normal _ w.drew
        have hb := (Below.refl w.heap.size w).drew
        have hs1 := hs1.below hb
        have hs2 := hs2.below hb
        generalize w.drew = w2 at *
        rw [show fr + k - fr = k by omega] at hs1
        obtain ⟨body, hbody⟩ : ∃ b, b = (l.take (fr + k)).drop fr := ⟨_, rfl⟩
        obtain ⟨r, hr⟩ : ∃ r, r = l.drop (fr + k) := ⟨_, rfl⟩
        rw [← hbody] at hs1
        rw [← hr] at hs2
        have hl4 : l[fr + k + 4]? = r[4]? := by rw [hr, List.getElem?_drop]
        have Hq := Hq2.out
        rw [hl4, ← hbody, ← hr] at Hq
        have Hq := Lib.hid Hq
        obtain ⟨x, hx⟩ := get_some r 4 (by rw [hs2.blen]; omega)
        obtain ⟨ad, rfl, hcell⟩ := hs2.byteAt hx
        have hcell2 : w2.cell? ⟨ad.block, ad.off + 4, none⟩ = some (.int .u8 (x.toNat : Int)) := by simpa [Addr.add] using hcell
        have Hx := Lib.hid hx
        have hin : (4 : Int) < ((n - (fr + k) : Nat) : Int) := by omega
        have hin2 : (0 : Int) ≤ (4 : Int) ∧ (4 : Int) < ((n - (fr + k) : Nat) : Int) := by omega
        clear hbody hr hl4 hx Hq2 hcut1 hcut2 hsl1 hsl2 hblk1 hblk2
        have hk0 : 0 < k := by omega
        by_cases hx165 : x = 165
        · subst hx165
          have hq := Hq.out
          rw [Hx.out, if_neg (by simp)] at hq
          obtain ⟨r4, hr4⟩ : ∃ s, s = r.take 4 := ⟨_, rfl⟩
          have hs4 : Sl w2 1 (some ad) 4 (c - (fr + k)) (bytesV r4) := by rw [hr4]; exact slb_to hs2 4 (by omega)
          have hcut4 := cutb_to .i64 (some ad) (n - (fr + k)) (c - (fr + k)) 4 4 rfl (by have := hs2.le; omega)
          obtain ⟨z, hz⟩ : ∃ z, (r4 == crc4 (crc body)) = z := ⟨_, rfl⟩
          have hqz : q = if z = true then (body, fr + k + 5, 0) else ([], 0, 12) := by
            rw [hq, ← hr4, ← hz]
            by_cases h : r4 = crc4 (crc body)
            · rw [if_neg (by simpa using h), if_pos (by simp [h])]
            · rw [if_pos h, if_neg (by simpa using h)]
          obtain ⟨ab, hab⟩ : ∃ ab, A1 = some ab := by
            cases A1 with
            | none => have := hs1.none rfl; omega
            | some ab => exact ⟨ab, rfl⟩
          subst hab
          have Hz := Lib.hid hz
          have Hqz := Lib.hid hqz
          have hb0 := hb
          clear hq hr4 hz hqz Hq Hx hs2 hb hk0b
          go_wp2_with fail
          --@region 45 11 get11.spec
          refine wp_region_run (by kernel_rfl) (by kernel_rfl) ?_
          apply RunL.pure
          · intro vs w hb hd; clear hd; simp only [List.take, putL, Act.put, List.setIfInBounds_toArray, List.set_cons_zero, List.set_cons_succ]; unfold StepOK; go_simp; exact ⟨Below.refl _ _, isV_mk _ _⟩
          apply RunL.pure
          · intro vs w hb hd; have d0 : isV _ (vs 0) w := hd 0 (by decide) (by kernel_rfl); unfold isV at d0; clear hd; have hq := hcut4; simp only [List.take, putL, Act.put, List.setIfInBounds_toArray, List.set_cons_zero, List.set_cons_succ]; unfold StepOK; go_simp; exact ⟨Below.refl _ _, isV_mk _ _⟩
          apply RunL.pure
          · intro vs w hb hd; clear hd; simp only [List.take, putL, Act.put, List.setIfInBounds_toArray, List.set_cons_zero, List.set_cons_succ]; unfold StepOK; go_simp; exact ⟨Below.refl _ _, isV_mk _ _⟩
          refine RunL.such (isB (crc4 (crc body))) (isB_stable _) ?_ ?_
          · intro vs w hb hd; have d2 : isV _ (vs 2) w := hd 2 (by decide) (by kernel_rfl); unfold isV at d2; clear hd; simp only [List.take, putL, Act.put, List.setIfInBounds_toArray, List.set_cons_zero, List.set_cons_succ]; unfold StepOK; go_simp; refine ⟨Below.refl _ _, (sum_any _ _ _ body _ (hs1.below hb) (by omega)).mono ?_⟩; rintro e w' ⟨rfl, h1, h2⟩; exact ⟨_, rfl, h2, _, _, _, rfl, h1⟩
          refine RunL.such (isV (.bool z)) (isV_stable _) ?_ ?_
          · intro vs w hb hd; have d1 : isV _ (vs 1) w := hd 1 (by decide) (by kernel_rfl); unfold isV at d1; have d3 := hd 3 (by decide) (by kernel_rfl); simp only [TR, Nat.reduceAdd, Nat.reduceSub, List.getD_cons_zero, List.getD_cons_succ] at d3; clear hd; obtain ⟨Aq, nq, cq, eq, hq⟩ := isB_elim d3; have hn4 : nq ≤ 4 := by { have := hq.blen; rw [crc4_length'] at this; omega }; simp only [List.take, putL, Act.put, List.setIfInBounds_toArray, List.set_cons_zero, List.set_cons_succ]; unfold StepOK; go_simp; refine ⟨Below.refl _ _, (equal_any _ _ _ _ _ _ r4 (crc4 (crc body)) _ (hs4.below hb) hq (by omega) (by omega)).mono ?_⟩; rintro e w' ⟨rfl, h1⟩; exact ⟨_, rfl, h1, by rw [Hz.out]; exact isV_mk _ _⟩
          apply RunL.pure
          · intro vs w hb hd; have d4 := hd 4 (by decide) (by kernel_rfl); simp only [TR, Nat.reduceAdd, Nat.reduceSub, List.getD_cons_zero, List.getD_cons_succ] at d4; clear hd; unfold isV at d4; simp only [List.take, putL, Act.put, List.setIfInBounds_toArray, List.set_cons_zero, List.set_cons_succ]; unfold StepOK; go_simp; exact ⟨Below.refl _ _, isV_mk _ _⟩
          apply RunL.pure
          · intro vs w hb hd; have d4 := hd 4 (by decide) (by kernel_rfl); simp only [TR, Nat.reduceAdd, Nat.reduceSub, List.getD_cons_zero, List.getD_cons_succ] at d4; have d5 : isV _ (vs 5) w := hd 5 (by decide) (by kernel_rfl); unfold isV at d5; clear hd; simp only [List.take, putL, Act.put, List.setIfInBounds_toArray, List.set_cons_zero, List.set_cons_succ]; unfold StepOK; go_simp; exact ⟨Below.refl _ _, isV_mk _ _⟩
          intro vs w1 hb hd
          have e0 : isV _ (vs 0) w1 := hd 0 (by decide)
          have e1 : isV _ (vs 1) w1 := hd 1 (by decide)
          have e2 : isV _ (vs 2) w1 := hd 2 (by decide)
          have e3 := hd 3 (by decide); simp only [TR, Nat.reduceAdd, Nat.reduceSub, List.getD_cons_zero, List.getD_cons_succ] at e3
          have e4 := hd 4 (by decide); simp only [TR, Nat.reduceAdd, Nat.reduceSub, List.getD_cons_zero, List.getD_cons_succ] at e4
          have e5 : isV _ (vs 5) w1 := hd 5 (by decide)
          have e6 : isV _ (vs 6) w1 := hd 6 (by decide)
          clear hd
          unfold isV at e0 e1 e2 e5 e6
          simp only [putL, Act.put, List.setIfInBounds_toArray, List.set_cons_zero, List.set_cons_succ, e0, e1, e2, e5, e6]
          clear e0 e1 e2 e5 e6
          --@end
          unfold isV at e4
          simp only [e4]
          have hb1 := hb0.trans (hb.mono hb0.size)
          have hs1 := hs1.below hb
          clear e3 e4 hb hb0 hs4 hcut4
          cases z with
          | true =>
            have hq := Hqz.out
            rw [if_pos rfl] at hq
            subst hq
            go_wp2_with fail
            refine (clone_any ab k _ body _ hs1 (by omega)).mono ?_; rintro e w5 ⟨v, rfl, hown, hb5⟩
            go_wp2_with fail
            go_ret3
            have hbl : body.length = k := hs1.blen
            refine ⟨_, rfl, ?_, hb1.trans (hb5.mono hb1.size)⟩
            rw [hbl]
            exact World.ownsRow.mono hown hb1.size
          | false =>
            have hq := Hqz.out
            rw [if_neg (by simp)] at hq
            subst hq
            go_wp2_with fail
            go_ret3
            exact ⟨_, rfl, World.ownsRow_nil _ _ _ _, hb1⟩
        · have hne : ((x.toNat : Int) != 165) = true := by
            simp
            intro h
            exact hx165 (UInt8.toNat_inj.1 (by simp; omega))
          have hq := Hq.out
          rw [Hx.out, if_pos (by simpa using hx165)] at hq
          subst hq
          go_wp2_with fail
          go_ret3
          exact ⟨_, rfl, World.ownsRow_nil _ _ _ _, hb⟩
  · have hq := Hq.out
    rw [if_pos (by simpa using he)] at hq
    subst hq
    have hne : ((er : Int) != 0) = true := by simp; omega
    go_enter Tryz.func66, Tryz.ntmps66
    go_wp2_with (go_at_call 85; refine (getUint_any _ _ _ l _ _ hs (by omega)).mono ?_; rintro e w' ⟨rfl, rfl⟩; rw [← Hg.out]; dsimp only)
    go_ret3
    exact ⟨_, rfl, World.ownsRow_nil _ _ _ _, Below.refl _ _⟩
end Go.Proofs.YtemegkapmgcffaaGreat

/- Plain mathematics: frames. -/
namespace Go.Proofs.YtemegkapmgcffaaGreat

theorem frm_len (b : List UInt8) : (frm b).length = (uv b.length).length + b.length + 5 := by
  simp [frm, crc4_len]; omega
theorem fg_frm (pre b rest : List UInt8) (a : Int) (ha : a = (pre.length : Int)) (h0 : 0 < b.length) (h1 : b.length ≤ 1048576) :
    fg (pre ++ (frm b ++ rest)) a = (b, pre.length + (frm b).length, 0) := by
  have hg : gu (pre ++ (frm b ++ rest)) a = (b.length, pre.length + (uv b.length).length, 0) := by
    have := gu_uv pre (b ++ (crc4 (crc b) ++ [165]) ++ rest) b.length a (by omega) ha
    rw [← this]; simp [frm]
  obtain ⟨u, hu⟩ : ∃ u, u = uv b.length := ⟨_, rfl⟩
  have e : pre ++ (frm b ++ rest) = (pre ++ u) ++ (b ++ (crc4 (crc b) ++ (165 :: rest))) := by simp [frm, hu]
  have hl : (pre ++ (frm b ++ rest)).length = pre.length + u.length + b.length + 5 + rest.length := by
    rw [e]; simp [crc4_len]; omega
  unfold fg
  rw [hg, ← hu]
  simp only
  rw [if_neg (by simp), if_neg (by omega), if_neg (by rw [hl]; omega)]
  have hlen2 : (pre ++ u).length = pre.length + u.length := by simp
  have e1 : (pre ++ (frm b ++ rest)).drop (pre.length + u.length + b.length) = crc4 (crc b) ++ (165 :: rest) := by
    rw [e, ← hlen2, ← List.drop_drop, List.drop_left, List.drop_left]
  have e2 : ((pre ++ (frm b ++ rest)).take (pre.length + u.length + b.length)).drop (pre.length + u.length) = b := by
    rw [List.drop_take, e, ← hlen2, List.drop_left, Nat.add_sub_cancel_left, List.take_left]
  have e3 : (pre ++ (frm b ++ rest))[pre.length + u.length + b.length + 4]? = some 165 := by
    rw [← List.getElem?_drop, e1]; rfl
  rw [e1, e2, e3, if_neg (by simp), if_neg (by rw [List.take_left' (crc4_len _)]; simp)]
  rw [frm_len, ← hu]
  simp only [Prod.mk.injEq, and_true, true_and]
  omega
end Go.Proofs.YtemegkapmgcffaaGreat

namespace Go.Proofs.YtemegkapmgcffaaGreat
open Go.RowKit
set_option linter.unusedSimpArgs false
set_option linter.unusedVariables false

theorem sameBytes_any (A B : Option Addr) (n c m d : Nat) (l b : List UInt8) (w : World) (hs : Sl w 1 A n c (bytesV l)) (ht : Sl w 1 B m d (bytesV b)) :
    Calls Tryz.prog 59 #[.slice A n c, .slice B m d] w fun e w' => e = .returned (.bool (l == b)) ∧ w = w' := by
  have hc1 := run_str hs
  have hc2 := run_str ht
  go_enter Tryz.func59, Tryz.ntmps59
  go_wp2_with fail
  go_ret
  exact ⟨rfl, rfl⟩

end Go.Proofs.YtemegkapmgcffaaGreat

namespace Go.Proofs.YtemegkapmgcffaaGreat
open Go.RowKit
set_option linter.unusedSimpArgs false
set_option linter.unusedVariables false

section
variable {base size n c : Nat} {e : TypeId} {w : World} {A : Option Addr} {cs : List Value}
end
structure OwnTo (base : Nat) (e : TypeId) (size : Nat) (w w' : World) (A A' : Option Addr) (n c : Nat) (cs : List Value) : Prop where
  app : Own base e size w' A' n c cs
  grown : w.grownBy w' (rowOf base A)
  lies : From w A A'
theorem OwnTo.refl {base : Nat} {e : TypeId} {size : Nat} {w : World} {A : Option Addr} {n c : Nat} {cs : List Value} (h : Own base e size w A n c cs) : OwnTo base e size w w A A n c cs :=
  ⟨h, World.grownBy.refl _ _, From.refl _ _⟩
theorem OwnTo.trans {base : Nat} {e : TypeId} {size : Nat} {w w1 w2 : World} {A A1 A2 : Option Addr} {n1 c1 n2 c2 : Nat} {cs1 cs2 : List Value}
    (h : OwnTo base e size w w1 A A1 n1 c1 cs1) (k : OwnTo base e size w1 w2 A1 A2 n2 c2 cs2) : OwnTo base e size w w2 A A2 n2 c2 cs2 :=
  ⟨k.app, grownBy_trans' h.grown k.grown h.lies.row, h.lies.trans k.lies h.grown.size⟩
theorem OwnTo.after {base : Nat} {e : TypeId} {size : Nat} {w w1 w2 : World} {A A2 : Option Addr} {n2 c2 : Nat} {cs2 : List Value}
    (h : Below w.heap.size w w1) (k : OwnTo base e size w1 w2 A A2 n2 c2 cs2) : OwnTo base e size w w2 A A2 n2 c2 cs2 :=
  ⟨k.app, grownBy_trans (below_grownBy h _) k.grown, (From.refl w A).trans k.lies h.size⟩
theorem OwnTo.below {base : Nat} {e : TypeId} {size : Nat} {w w1 : World} {A A1 : Option Addr} {n1 c1 : Nat} {cs1 : List Value}
    (h : OwnTo base e size w w1 A A1 n1 c1 cs1) (hb : base ≤ w.heap.size) : Below base w w1 :=
  (Below.refl _ _).grown h.grown hb (fun _ hk => rowOf_ge hk)

theorem run_ownA {P : Program} (w : World) (base : Nat) (t ty e : TypeId) (z : Value) (size bytes : Nat) (ht : P.underlying t = some (.slice e))
    (hinfo : (P.info? e).map (fun i => (i.zero, i.size, i.bytes)) = some (some z, size, bytes)) (hzs : z.cells.size = size) (hsz : 0 < size)
    (A : Option Addr) (n c : Nat) (xs : List Value) (hown : Own base e size w A n c xs)
    (B : Option Addr) (m c' : Nat) (news : List Value) (hsl : Sl w size B m c' news) (h1 : ∀ u ∈ news, u.oneCell' = true)
    (h63 : n + m ≤ maxLen) (hbytes : (n + m) * bytes ≤ 140737488355328) (hbase : base ≤ w.heap.size) :
    ∃ A' d w', (Builtin.append_ #[t, t] ty #[.slice A n c, .slice B m c']).run P w = .ok (.slice A' (n + m) d) w' ∧
      OwnTo base e size w w' A A' (n + m) d (xs ++ news) := by
  obtain ⟨i, hi, hz, hs, hb⟩ := info_parts hinfo
  have hrow : (Value.slice A n c).ownBlock = rowOf base A := by
    cases A with
    | none => rfl
    | some a => rw [rowOf_some (World.ownsRow.lt hown a.block rfl).1]; rfl
  cases B with
  | none =>
    obtain ⟨rfl, rfl⟩ := hsl.none rfl
    have hn : news = [] := List.eq_nil_of_length_eq_zero (by simpa using hsl.len)
    subst hn
    have hrun := run_append_owned_none (P := P) (w := w) base t ty e i size ht hi _ n xs hown
    exact ⟨A, c, w, hrun, by rw [List.append_nil]; exact OwnTo.refl hown⟩
  | some b =>
    obtain ⟨v', w', hrun, h2, h3, h4, h5⟩ := run_append_own_at (P := P) w base t ty e i z size bytes ht hi hz hs hb hzs hsz (.slice A n c) n xs hown b m c' news hsl.len
      (fun j u hj => by obtain ⟨ad, e, h⟩ := hsl.cells j u hj; cases e; exact h) h1 h63 hbytes hbase
    have hv : ∃ A' d, v' = .slice A' (n + m) d := by
      rcases h2.2 with ⟨rfl, h0⟩ | ⟨g, cap, cur, rfl, _⟩
      · exact ⟨none, 0, by rw [h0]⟩
      · exact ⟨_, _, rfl⟩
    obtain ⟨A', d, rfl⟩ := hv
    refine ⟨A', d, w', hrun, h2, hrow ▸ h3, ?_⟩
    intro a' ha'
    subst ha'
    rcases h5 with h5 | h5
    · cases A with
      | none => simp [Value.ownBlock] at h5
      | some a => exact .inl ⟨a, rfl, by simp [Value.ownBlock] at h5; exact h5.symm⟩
    · exact .inr (by simp [Value.ownBlock] at h5; omega)

theorem wpList_ownA {P : Program} (w : World) {ops : Array Oper} {rest : List Oper} {o : Oper} {a : Act} {Q : Exit → Act → World → Prop} (hgd : o.guard = none) (s x : Operand) (t : TypeId)
    (ho : o.op = .call { callee := .builtin .append, args := #[s, x], argTypes := #[t, t] })
    (base : Nat) (e : TypeId) (z : Value) (size bytes : Nat) (ht : P.underlying t = some (.slice e))
    (hinfo : (P.info? e).map (fun i => (i.zero, i.size, i.bytes)) = some (some z, size, bytes)) (hzs : z.cells.size = size) (hsz : 0 < size)
    (A : Option Addr) (n c : Nat) (xs : List Value) (hs : a.eval s = .slice A n c) (happ : Own base e size w A n c xs)
    (B : Option Addr) (m c' : Nat) (news : List Value) (hx : a.eval x = .slice B m c') (hsl : Sl w size B m c' news) (h1 : ∀ u ∈ news, u.oneCell' = true)
    (h63 : n + m ≤ maxLen) (hbytes : (n + m) * bytes ≤ 140737488355328) (hbase : base ≤ w.heap.size)
    (h : ∀ A' d w', OwnTo base e size w w' A A' (n + m) d (xs ++ news) → wpList P ops Q rest (a.put o.dst (.slice A' (n + m) d)) w') :
    wpList P ops Q (o :: rest) a w := by
  refine wpList_plain hgd fun K hK => ?_
  obtain ⟨A', d, w', hrun, h2⟩ := run_ownA (P := P) w base t o.type e z size bytes ht hinfo hzs hsz A n c xs happ B m c' news hsl h1 h63 hbytes hbase
  unfold Oper.wp
  simp [execOp, ho, resolve, invoke, builtin, hs, hx, hrun, Result.andThen]
  exact hK _ _ (h A' d w' h2)

set_option maxHeartbeats 400000 in
theorem uint_own (base : Nat) (A : Option Addr) (n0 c : Nat) (l : List UInt8) (n : Nat) (w : World) (ha : Own base 5 1 w A n0 c (bytesV l)) (hb : base ≤ w.heap.size)
    (hn : n < 18446744073709551616) (hl : n0 ≤ 140737488351232) :
    Calls Tryz.prog 73 #[.slice A n0 c, .int .u64 (n : Int)] w fun e w' => ∃ A' n' c', e = .returned (.slice A' n' c') ∧
      OwnTo base 5 1 w w' A A' n' c' (bytesV (l ++ uv n)) := by
  have hor : Go.bits .or .u64 (n : Int) 1 = ((n ||| 1 : Nat) : Int) := bits_or_u64 n 1 hn (by omega)
  have hlt : (n ||| 1 : Nat) ≤ 18446744073709551615 := by rw [or_one]; split <;> omega
  obtain ⟨q, hq⟩ : ∃ q, q = Lib.bitLen (n ||| 1) := ⟨_, rfl⟩
  have hR := uv_rounds n hn
  have hR1 := uv_pos n
  have hR2 := uv_len_ten n hn
  have hb := Lib.bitLenAux_bounds 64 (n ||| 1) (by omega) (by rw [or_one]; split <;> omega)
  have hq1 : 1 ≤ q := by rw [hq]; exact hb.1
  have hq2 : q ≤ 64 := by rw [hq]; exact Lib.bitLen_le _ 64 (by omega) (by omega)
  obtain ⟨R, hR'⟩ : ∃ R, R = (uv n).length - 1 := ⟨_, rfl⟩
  have hRq : ((q : Int) - 1) / 7 = (R : Int) := by rw [← hq] at hR; omega
  have HR := Lib.hid hR'
  have Hq := Lib.hid hq
  clear hR hR1 hR2 hR' hq hb
  go_enter Tryz.func73, Tryz.ntmps73
  go_wp2_with (go_at_call 98; refine (Tryz.bits_Len64 _ _ (by omega) (by omega)).mono ?_; rintro e w' ⟨rfl, hw⟩; have hw := hw.symm; subst hw; simp only [Int.toNat_natCast]; rw [← Hq.out])

  clear hRq hor
  go_loopw [0, 1, 10] (fun v m i wr => ∃ (k m' : Nat) (pre : List UInt8) (A1 : Option Addr) (n1 c1 : Nat), k ≤ R ∧ i = .int .i64 k ∧ m = .int .u64 m' ∧ v = .slice A1 n1 c1 ∧
      pre ++ uv m' = uv n ∧ pre.length = k ∧ m' < 18446744073709551616 ∧ OwnTo base 5 1 w wr A A1 n1 c1 (bytesV (l ++ pre))) (fun _ _ i _ => R - (intOf i).toNat)
  case atStart => exact ⟨0, n, [], A, n0, c, by omega, rfl, rfl, rfl, rfl, rfl, hn, by simpa using OwnTo.refl ha⟩
  case round =>
    obtain ⟨k, m, pre, A1, n1, c1, hk, rfl, rfl, rfl, hpre, hlen, hm, happ⟩ := hrel
    have hn1 : n1 ≤ 140737488351232 + 10 := by
      have h1 := happ.app.sl.blen
      have h2 := ha.sl.blen
      have h3 := uv_len_ten n hn
      rw [List.length_append] at h1
      rw [HR.out] at hk
      omega
    have hsz := happ.grown.size
    have hR10 : R ≤ 10 := by have h3 := uv_len_ten n hn; rw [HR.out]; omega
    have hu : (uv m).length + k = R + 1 := by
      have h1 := congrArg List.length hpre
      rw [List.length_append, hlen] at h1
      have h2 := uv_pos n
      rw [HR.out]; omega
    by_cases hlt : k < R
    · have hbig : 128 ≤ m := by
        apply Classical.byContradiction; intro hh
        have := uv_len_small m (by omega); omega
      obtain ⟨x, hx⟩ : ∃ x, x = UInt8.ofNat (128 + m % 128) := ⟨_, rfl⟩
      have hv := bits_or128_u8 m
      rw [← hx] at hv
      have Hx := Lib.hid hx
      have hlen' := Lib.hid hlen
      have hpre' := Lib.hid hpre
      clear hx hlen hpre hu
      go_wp2_with (at_builtin; refine wpList_ownA _ rfl _ _ 34 rfl base 5 (.int .u8 0) 1 1 Tryz.underlying34 infoByte rfl (by decide) A1 n1 c1 (bytesV (l ++ pre)) rfl (happ.app.alloc _) (some ⟨wr.heap.size, 0, none⟩) 1 1 [byteV x] rfl (sl_one _ _ _) (bytesV_one [x]) (by unfold maxLen; omega) (by omega) (by simp; omega) ?_; intro A2 d w2 hat)
      go_roundw
      case rel =>
        refine ⟨k + 1, m / 128, pre ++ [x], A2, _, d, by omega, by go_num, by go_num, rfl, ?_, ?_, by omega, ?_⟩
        · rw [← hpre'.out, uv_big m hbig, Hx.out]; simp
        · rw [List.length_append, hlen'.out]; rfl
        · rw [← List.append_assoc, bytesV_append]
          exact happ.trans (OwnTo.after (below_alloc1 _ _) hat)
      case measure => simp [intOf]; omega
    · have hk' : k = R := by omega
      have hsm : m < 128 := (uv_len_one m).1 (by omega)
      obtain ⟨x, hx⟩ : ∃ x, x = UInt8.ofNat m := ⟨_, rfl⟩
      have hv : m = x.toNat := by rw [hx, UInt8.toNat_ofNat']; omega
      have Hx := Lib.hid hx
      clear hx
      subst hv
      have hlen' := Lib.hid hlen
      have hpre' := Lib.hid hpre
      have hkk := Lib.hid hk'
      clear hlen hpre hu hk'
      go_wp2_with (at_builtin; refine wpList_ownA _ rfl _ _ 34 rfl base 5 (.int .u8 0) 1 1 Tryz.underlying34 infoByte rfl (by decide) A1 n1 c1 (bytesV (l ++ pre)) rfl (happ.app.alloc _) (some ⟨wr.heap.size, 0, none⟩) 1 1 [byteV x] rfl (sl_one _ _ _) (bytesV_one [x]) (by unfold maxLen; omega) (by omega) (by simp; omega) ?_; intro A2 d w2 hat)
      go_ret
      refine ⟨A2, _, d, rfl, ?_⟩
      rw [← hpre'.out, uv_small _ hsm, ← Hx.out, ← List.append_assoc, bytesV_append]
      exact happ.trans (OwnTo.after (below_alloc1 _ _) hat)

theorem uint_ato (base : Nat) (A : Option Addr) (n0 c : Nat) (l : List UInt8) (n : Nat) (N : Int) (w : World) (ha : Own base 5 1 w A n0 c (bytesV l)) (hb : base ≤ w.heap.size)
    (hn : n < 18446744073709551616) (hl : n0 ≤ 140737488351232) (hN : N = (n : Int)) :
    Calls Tryz.prog 73 #[.slice A n0 c, .int .u64 N] w fun e w' => ∃ A' n' c', e = .returned (.slice A' n' c') ∧
      OwnTo base 5 1 w w' A A' n' c' (bytesV (l ++ uv n)) := by
  subst hN; exact uint_own base A n0 c l n w ha hb hn hl

set_option maxHeartbeats 400000 in
theorem joined_own (base : Nat) (A : Option Addr) (n0 c : Nat) (l : List UInt8) (parts : List Part) (P : Option Addr) (m d : Nat) (w : World) (ha : Own base 5 1 w A n0 c (bytesV l)) (hb : base ≤ w.heap.size)
    (hp : Sl w 1 P m d (parts.map Part.v)) (hps : ∀ ad, P = some ad → some ad.block ≠ rowOf base A)
    (hq : ∀ q ∈ parts, Sl w 1 q.A q.n q.c (bytesV q.l) ∧ ∀ ad, q.A = some ad → some ad.block ≠ rowOf base A)
    (hl : (l ++ parts.flatMap Part.l).length ≤ 70368744175616) (hm : m ≤ 1000) :
    Calls Tryz.prog 97 #[.slice A n0 c, .slice P m d] w fun e w' => ∃ A' n' c', e = .returned (.slice A' n' c') ∧
      OwnTo base 5 1 w w' A A' n' c' (bytesV (l ++ parts.flatMap Part.l)) := by
  have hpl : parts.length = m := by have := hp.len; simpa using this
  have Hq := Lib.hid hq
  have Hl := Lib.hid hl
  have Hpl := Lib.hid hpl
  clear hq hl hpl
  go_enter Tryz.func97, Tryz.ntmps97
  go_wp2_with fail
  go_loopw [0, 9] (fun v i wr => ∃ (k : Nat) (A1 : Option Addr) (n1 c1 : Nat), k ≤ m ∧ i = .int .i64 k ∧ v = .slice A1 n1 c1 ∧
      OwnTo base 5 1 w wr A A1 n1 c1 (bytesV (l ++ (parts.take k).flatMap Part.l))) (fun _ i _ => m - (intOf i).toNat)
  case atStart => exact ⟨0, A, n0, c, by omega, rfl, rfl, by simpa using OwnTo.refl ha⟩
  case round =>
    obtain ⟨k, A1, n1, c1, hk, rfl, rfl, hto⟩ := hrel
    by_cases hlt : k < m
    · obtain ⟨q, hqk⟩ : ∃ q, q = parts[k]'(by rw [Hpl.out]; exact hlt) := ⟨_, rfl⟩
      have hq2 := Hq.out q (by rw [hqk]; exact List.getElem_mem _)
      obtain ⟨ad, rfl, hcell⟩ := (hp.grown hto.grown hps).cells k q.v (by rw [hqk]; simp [Hpl.out, hlt])
      have hsq := hq2.1.grown hto.grown hq2.2
      have hn1 := hto.app.sl.blen
      have hlen : n1 + q.n ≤ 70368744175616 := by
        have h1 := Hl.out
        rw [← hn1, ← hq2.1.blen]
        have e : parts = parts.take k ++ q :: parts.drop (k + 1) := by rw [hqk, List.getElem_cons_drop, List.take_append_drop]
        rw [e] at h1
        simp at h1 ⊢
        omega
      have hin : (0 : Int) ≤ (k : Int) ∧ (k : Int) < (m : Int) := by omega
      have htk : (parts.take (k + 1)).flatMap Part.l = (parts.take k).flatMap Part.l ++ q.l := by
        rw [List.take_succ_eq_append_getElem (by rw [Hpl.out]; exact hlt), List.flatMap_append, ← hqk]; simp
      have Htk := Lib.hid htk
      obtain ⟨qA, qn, qc, ql⟩ := q
      simp only [Part.v] at hcell hsq hlen htk Htk
      clear hqk hq2 hp hn1 htk
      go_wp2_with (at_builtin; refine wpList_ownA _ rfl _ _ 34 rfl base 5 (.int .u8 0) 1 1 Tryz.underlying34 infoByte rfl (by decide) A1 n1 c1 _ rfl hto.app qA qn qc (bytesV ql) rfl hsq (bytesV_one _) (by unfold maxLen; omega) (by omega) (by have := hto.grown.size; omega) ?_; intro A2 d2 w2 hat)
      go_roundw
      case rel =>
        refine ⟨k + 1, A2, _, d2, by omega, by go_num, rfl, ?_⟩
        rw [Htk.out, ← List.append_assoc, bytesV_append]
        exact hto.trans hat
      case measure => simp [intOf]; omega
    · obtain rfl : k = m := by omega
      go_wp2_with fail
      go_ret
      exact ⟨A1, n1, c1, rfl, by rw [← Hpl.out, List.take_length] at hto; exact hto⟩

set_option maxHeartbeats 1000000 in
theorem put_own (base : Nat) (A B : Option Addr) (n0 c m d : Nat) (l b : List UInt8) (w : World) (ha : Own base 5 1 w A n0 c (bytesV l)) (hb : base ≤ w.heap.size)
    (hs : Sl w 1 B m d (bytesV b)) (hsep : ∀ ad, B = some ad → some ad.block ≠ rowOf base A) (hn : n0 ≤ 35184372088832) (hm0 : 0 < m) (hm : m ≤ 1048576) :
    Calls Tryz.prog 71 #[.slice A n0 c, .slice B m d] w fun e w' => ∃ A' n' c', e = .returned (.tuple #[.slice A' n' c', .int .i64 0]) ∧
      OwnTo base 5 1 w w' A A' n' c' (bytesV (l ++ frm b)) := by
  have h0 : ((m : Int) == 0) = false := by simp; omega
  have hnl := ha.sl.blen
  have hbl := hs.blen
  go_enter Tryz.func71, Tryz.ntmps71
  go_wp2_with fail
  refine (uint_ato base A n0 c l m _ w ha hb (by omega) (by omega) rfl).mono ?_; rintro e w1 ⟨A1, n1, c1, rfl, hto⟩
  have hs1 := hs.grown hto.grown hsep
  go_wp2_with fail
  refine (sum_any _ _ _ b _ hs1 (by omega)).mono ?_; rintro e w2 ⟨rfl, hsum, hb2⟩
  go_wp2_with fail
  have hn1 := hto.app.sl.blen
  rw [List.length_append] at hn1
  have hup := uv_pos m
  have hrow : ∀ k, rowOf base A1 = some k → k < w1.heap.size := by
    intro k hk
    cases A1 with
    | none => simp [rowOf] at hk
    | some a => have := hto.app.block_lt (by omega); simp [rowOf] at hk; omega
  obtain ⟨w3, hw3⟩ : ∃ w3, w3 = w2.alloc (Obj.cells #[Value.int IntKind.u8 165] 5) := ⟨_, rfl⟩
  have hsz3 : w3.heap.size = w2.heap.size + 1 := by rw [hw3]; simp
  have hb3 : Below w2.heap.size w2 w3 := by rw [hw3]; exact below_alloc1 _ _
  have h165 : Sl w3 1 (some ⟨w2.heap.size, 0, none⟩) 1 1 (bytesV [165]) := by rw [hw3]; exact sl_new w2 [165] 5 1 rfl
  rw [← hw3, ← hsz3]
  clear hw3
  obtain ⟨w4, hw4⟩ : ∃ w4, w4 = w3.alloc (Obj.cells #[Value.slice B m d, Value.slice (some ⟨w1.heap.size, 0, none⟩) 4 4, Value.slice (some ⟨w2.heap.size, 0, none⟩) 1 1] 34) := ⟨_, rfl⟩
  have hb4 : Below w3.heap.size w3 w4 := by rw [hw4]; exact below_alloc1 _ _
  have hp : Sl w4 1 (some ⟨w3.heap.size, 0, none⟩) 3 3 (([⟨B, m, d, b⟩, ⟨some ⟨w1.heap.size, 0, none⟩, 4, 4, crc4 (crc b)⟩, ⟨some ⟨w2.heap.size, 0, none⟩, 1, 1, [165]⟩] : List Part).map Part.v) := by
    rw [hw4]; exact sl_cells w3 [Value.slice B m d, Value.slice (some ⟨w1.heap.size, 0, none⟩) 4 4, Value.slice (some ⟨w2.heap.size, 0, none⟩) 1 1] 34
  rw [← hw4]
  clear hw4
  have z1 := hto.grown.size
  have z2 := hb2.size
  have z3 := hb3.size
  have hb13 : Below w1.heap.size w1 w3 := hb2.trans (hb3.mono z2)
  have hb14 : Below w1.heap.size w1 w4 := hb13.trans (hb4.mono (by omega))
  have hb24 : Below w2.heap.size w2 w4 := hb3.trans (hb4.mono z3)
  refine (joined_own base A1 n1 c1 (l ++ uv m) _ _ 3 3 w4 (hto.app.below hb14) (by have := hb14.size; omega) hp (fun ad h => by cases h; intro e; have := hrow _ e.symm; simp at this; omega) ?_ ?_ (by omega)).mono ?_
  · intro q hq
    simp only [List.mem_cons, List.not_mem_nil, or_false] at hq
    rcases hq with rfl | rfl | rfl
    · refine ⟨hs1.below hb14, fun ad h => ?_⟩
      simp only at h
      subst h
      rcases hto.lies.row (base := base) with e | e
      · rw [e]; exact hsep ad rfl
      · intro e2; have h3 := e _ e2.symm; have := hs.block_lt hm0; omega
    · refine ⟨hsum.below hb24, fun ad h => ?_⟩
      cases h; intro e; have := hrow _ e.symm; simp at this
    · refine ⟨h165.below hb4, fun ad h => ?_⟩
      cases h; intro e; have := hrow _ e.symm; simp at this; omega
  · have := uv_len_ten m (by omega)
    simp [hnl, hbl, crc4_length']
    omega
  · rintro e w5 ⟨A5, n5, c5, rfl, hat⟩
    go_wp2_with fail
    go_ret2
    refine ⟨A5, n5, c5, rfl, ?_⟩
    have h := hto.trans (hat.after hb14)
    have e : (l ++ uv m) ++ ([⟨B, m, d, b⟩, ⟨some ⟨w1.heap.size, 0, none⟩, 4, 4, crc4 (crc b)⟩, ⟨some ⟨w2.heap.size, 0, none⟩, 1, 1, [165]⟩] : List Part).flatMap Part.l = l ++ frm b := by
      simp [frm, hbl]
    rwa [e] at h

end Go.Proofs.YtemegkapmgcffaaGreat

/- Plain mathematics: what is read as a number, or as a frame, is what would be written. -/
namespace Go.Proofs.YtemegkapmgcffaaGreat
set_option linter.unusedSimpArgs false

theorem guL_back (s : List UInt8) : ∀ k acc, k ≤ 9 → (guL k s acc).2.2 = 0 → ∃ m, (0 < k → m ≠ 0) ∧ (guL k s acc).1 = acc + m * 128 ^ k ∧ s.take ((guL k s acc).2.1 - k) = uv m ∧ k < (guL k s acc).2.1 := by
  induction s with
  | nil => intro k acc _ h; simp [guL] at h
  | cons x r ih =>
    intro k acc hk h
    have hx := x.toNat_lt
    rw [guL] at h ⊢
    by_cases h1 : (k = 9 ∧ 1 < x.toNat) ∨ (x.toNat = 0 ∧ 0 < k)
    · rw [if_pos h1] at h; simp at h
    · rw [if_neg h1] at h ⊢
      by_cases h2 : x.toNat < 128
      · rw [if_pos h2]
        refine ⟨x.toNat, fun h3 h4 => h1 (.inr ⟨h4, h3⟩), rfl, ?_, by simp⟩
        rw [uv_small _ h2]
        simp
      · rw [if_neg h2] at h ⊢
        have hk9 : k + 1 ≤ 9 := by
          apply Classical.byContradiction; intro hn
          exact h1 (.inl ⟨by omega, by omega⟩)
        obtain ⟨m, hm0, hm1, hm2, hm3⟩ := ih (k + 1) _ hk9 h
        have hm := hm0 (by omega)
        refine ⟨(x.toNat - 128) + 128 * m, fun _ => by omega, ?_, ?_, by omega⟩
        · rw [hm1, Nat.pow_succ, Nat.add_mul, Nat.add_assoc]
          congr 2
          rw [Nat.mul_comm 128 m, Nat.mul_assoc, Nat.mul_comm 128]
        · obtain ⟨q, hq⟩ : ∃ q, q = (guL (k + 1) r (acc + (x.toNat - 128) * 128 ^ k)).2.1 := ⟨_, rfl⟩
          rw [← hq] at hm2 hm3 ⊢
          rw [show q - k = (q - (k + 1)) + 1 by omega, List.take_succ_cons, hm2, uv_big ((x.toNat - 128) + 128 * m) (by omega)]
          congr 1
          · apply UInt8.toNat_inj.1
            rw [UInt8.toNat_ofNat']; omega
          · congr 1; omega

theorem gu_back {l : List UInt8} (h : (gu l 0).2.2 = 0) : l.take (gu l 0).2.1 = uv (gu l 0).1 := by
  unfold gu at h ⊢
  rw [if_neg (by omega)] at h ⊢
  simp only [Int.toNat_zero, List.drop_zero, Nat.zero_add] at h ⊢
  by_cases h0 : (guL 0 l 0).2.2 = 0
  · rw [if_pos h0]
    obtain ⟨m, _, h1, h2, _⟩ := guL_back l 0 0 (by omega) h0
    simp only [Nat.sub_zero, Nat.pow_zero, Nat.mul_one, Nat.zero_add] at h1 h2
    simp only
    rw [h1, h2]
  · rw [if_neg h0] at h
    exact absurd h h0

theorem fg_back {l b : List UInt8} {nx : Nat} (h : fg l 0 = (b, nx, 0)) : 0 < b.length ∧ b.length ≤ 1048576 ∧ nx ≤ l.length ∧ frm b = l.take nx := by
  have hnx := gu_next l 0
  have hgb := gu_back (l := l)
  unfold fg at h
  obtain ⟨⟨k, fr, er⟩, hg⟩ : ∃ g, g = gu l 0 := ⟨_, rfl⟩
  rw [← hg] at h hnx hgb
  simp only at h hnx hgb
  by_cases he : er ≠ 0
  · rw [if_pos he] at h; simp only [Prod.mk.injEq] at h; exact absurd h.2.2 he
  rw [if_neg he] at h
  by_cases hk : k = 0 ∨ 1048576 < k
  · rw [if_pos hk] at h; simp at h
  rw [if_neg hk] at h
  by_cases hl : l.length < fr + k + 5
  · rw [if_pos hl] at h; simp at h
  rw [if_neg hl] at h
  by_cases h165 : l[fr + k + 4]? ≠ some 165
  · rw [if_pos h165] at h; simp at h
  rw [if_neg h165] at h
  by_cases hc : (l.drop (fr + k)).take 4 ≠ crc4 (crc ((l.take (fr + k)).drop fr))
  · rw [if_pos hc] at h; simp at h
  rw [if_neg hc] at h
  simp only [Prod.mk.injEq, and_true] at h
  obtain ⟨hb, rfl⟩ := h
  rw [hb] at hc
  have he0 : er = 0 := by omega
  have hbl : b.length = k := by rw [← hb]; simp; omega
  have hgb := hgb he0
  have hc := Decidable.not_not.1 hc
  have h165 := Decidable.not_not.1 h165
  refine ⟨by omega, by omega, by omega, ?_⟩
  rw [frm, hbl, ← hgb, ← hc]
  have e1 : l.take (fr + k + 5) = l.take fr ++ ((l.drop fr).take k ++ ((l.drop (fr + k)).take 4 ++ (l.drop (fr + k + 4)).take 1)) := by
    rw [show fr + k + 5 = fr + (k + (4 + 1)) by omega, List.take_add, List.take_add, List.take_add, List.drop_drop, List.drop_drop]
  have e2 : (l.drop fr).take k = b := by
    rw [← hb, List.drop_take, Nat.add_sub_cancel_left]
  have e3 : (l.drop (fr + k + 4)).take 1 = [165] := by
    have := List.getElem?_eq_some_iff.1 h165
    obtain ⟨h1, h2⟩ := this
    rw [List.drop_eq_getElem_cons h1, h2]; rfl
  rw [e1, e2, e3]
end Go.Proofs.YtemegkapmgcffaaGreat
