import Derived.Test.YtbnifagmbhiblaaFrameB
import Derived.Deep.Onto
namespace Go.Proofs.Ytbnifagmbhiblaa
open Go.RowKit
set_option linter.unusedSimpArgs false
set_option linter.unusedVariables false

/-- reading a frame: the body, the place behind it, the error -/
def fg (l : List UInt8) (at_ : Int) : List UInt8 × Nat × Nat :=
  if (gu l at_).2.2 ≠ 0 then ([], 0, (gu l at_).2.2)
  else if (gu l at_).1 = 0 ∨ 1048576 < (gu l at_).1 then ([], 0, 10)
  else if l.length < (gu l at_).2.1 + (gu l at_).1 + 5 then ([], 0, 11)
  else if l[(gu l at_).2.1 + (gu l at_).1 + 4]? ≠ some 165 then ([], 0, 10)
  else if (l.drop ((gu l at_).2.1 + (gu l at_).1)).take 4 ≠ crc4 (crc ((l.take ((gu l at_).2.1 + (gu l at_).1)).drop (gu l at_).2.1)) then ([], 0, 12)
  else ((l.take ((gu l at_).2.1 + (gu l at_).1)).drop (gu l at_).2.1, (gu l at_).2.1 + (gu l at_).1 + 5, 0)

theorem own_form {w : World} {base n : Nat} {v : Value} {l : List UInt8} (h : w.ownsRow base 5 1 v n (bytesV l)) : ∃ A c, v = .slice A n c ∧ Sl w 1 A n c (bytesV l) ∧ w.ownsRow base 5 1 (.slice A n c) n (bytesV l) := by
  rcases h.2 with ⟨hv, hn⟩ | ⟨g, cap, cur, hv, _⟩
  · subst hv; subst hn; exact ⟨none, 0, rfl, ownsRow_sl h, h⟩
  · subst hv; exact ⟨_, cap, rfl, ownsRow_sl h, h⟩

set_option maxRecDepth 100000 in
set_option maxHeartbeats 1000000 in
theorem get_any (A : Option Addr) (n c : Nat) (l : List UInt8) (at_ : Int) (w : World) (hs : Sl w 1 A n c (bytesV l)) (hl : n ≤ 35184372088832) :
    Calls Try.prog 45 #[.slice A n c, .int .i64 at_] w fun e w' => ∃ v, e = .returned (.tuple #[v, .int .i64 ((fg l at_).2.1 : Nat), .int .i64 ((fg l at_).2.2 : Nat)]) ∧
      w'.ownsRow w.heap.size 5 1 v (fg l at_).1.length (bytesV (fg l at_).1) ∧ Below w.heap.size w w' := by
  have hlen := hs.blen
  have hlt := gu_lt l at_
  have hnx := gu_next l at_
  obtain ⟨q, hq⟩ : ∃ q, q = fg l at_ := ⟨_, rfl⟩
  rw [← hq]
  unfold fg at hq
  obtain ⟨⟨k, fr, er⟩, hg⟩ : ∃ g, g = gu l at_ := ⟨_, rfl⟩
  rw [← hg] at hq hlt hnx
  simp only at hq hlt hnx
  have Hg := Lib.hid hg
  have Hq := Lib.hid hq
  clear hg hq
  rw [hlen] at hnx
  by_cases he : er = 0
  · subst he
    have hq := Hq.out
    rw [if_neg (by simp)] at hq
    by_cases hk : k = 0 ∨ 1048576 < k
    · rw [if_pos hk] at hq
      subst hq
      by_cases hk0 : k = 0
      · subst hk0
        go_enter Try.func45, Try.ntmps45
        go_wp2_with (go_at_call 31; refine (getUint_any _ _ _ l _ _ hs (by omega)).mono ?_; rintro e w' ⟨rfl, rfl⟩; rw [← Hg.out]; dsimp only)
        go_ret3
        exact ⟨_, rfl, World.ownsRow_nil _ _ _ _, Below.refl _ _⟩
      · have hk0b : ((k : Int) == 0) = false := by simp; omega
        have hk1 : 1048576 < k := by omega
        go_enter Try.func45, Try.ntmps45
        go_wp2_with (go_at_call 31; refine (getUint_any _ _ _ l _ _ hs (by omega)).mono ?_; rintro e w' ⟨rfl, rfl⟩; rw [← Hg.out]; dsimp only)
        go_ret3
        exact ⟨_, rfl, World.ownsRow_nil _ _ _ _, Below.refl _ _⟩
    · rw [if_neg hk, hlen] at hq
      have hk0b : ((k : Int) == 0) = false := by simp; omega
      have hk1 : ¬ 1048576 < k := by omega
      by_cases hsh : n < fr + k + 5
      · rw [if_pos hsh] at hq
        subst hq
        have hsh2 : (n : Int) - (fr : Int) < (k : Int) + 5 := by omega
        go_enter Try.func45, Try.ntmps45
        go_wp2_with (go_at_call 31; refine (getUint_any _ _ _ l _ _ hs (by omega)).mono ?_; rintro e w' ⟨rfl, rfl⟩; rw [← Hg.out]; dsimp only)
        go_ret3
        exact ⟨_, rfl, World.ownsRow_nil _ _ _ _, Below.refl _ _⟩
      · rw [if_neg hsh] at hq
        have hsh2 : ¬ (n : Int) - (fr : Int) < (k : Int) + 5 := by omega
        have Hq2 := Lib.hid hq
        clear hq Hq
        obtain ⟨A1, hcut1, hblk1, hsl1⟩ := cutb_mid .i64 .i64 A n c fr (fr + k) (fr : Int) ((fr : Int) + (k : Int)) rfl (by omega) (by omega) (by omega) hs.le
        obtain ⟨A2, hcut2, hblk2, hsl2⟩ := cutb_from .i64 A n c (fr + k) ((fr : Int) + (k : Int)) (by omega) (by omega)
        have hs1 := hsl1 w l hs
        have hs2 := hsl2 w l hs
        have hw1 : IntKind.i64.wrap ((fr : Int) + (k : Int)) = (fr : Int) + (k : Int) := IntWalk.i64_in _ (by omega)
        have hw2 : IntKind.i64.wrap (k : Int) = (k : Int) := IntWalk.i64_in _ (by omega)
        go_enter Try.func45, Try.ntmps45
        go_wp2_with (go_at_call 31; refine (getUint_any _ _ _ l _ _ hs (by omega)).mono ?_; rintro e w' ⟨rfl, rfl⟩; rw [← Hg.out]; dsimp only)
        go_still (by kernel_rfl)
        change Exit.then _ _ Exit.normal _ w.drew
        have hb := (Below.refl w.heap.size w).drew
        have hs1 := hs1.below hb
        have hs2 := hs2.below hb
        generalize w.drew = w2 at *
        rw [show fr + k - fr = k by omega] at hs1
        obtain ⟨body, hbody⟩ : ∃ b, b = (l.take (fr + k)).drop fr := ⟨_, rfl⟩
        obtain ⟨r, hr⟩ : ∃ r, r = l.drop (fr + k) := ⟨_, rfl⟩
        rw [← hbody] at hs1
        rw [← hr] at hs2
        have hl4 : l[fr + k + 4]? = r[4]? := by rw [hr, List.getElem?_drop]
        have Hq := Hq2.out
        rw [hl4, ← hbody, ← hr] at Hq
        have Hq := Lib.hid Hq
        obtain ⟨x, hx⟩ := get_some r 4 (by rw [hs2.blen]; omega)
        obtain ⟨ad, rfl, hcell⟩ := hs2.byteAt hx
        have hcell2 : w2.cell? ⟨ad.block, ad.off + 4, none⟩ = some (.int .u8 (x.toNat : Int)) := by simpa [Addr.add] using hcell
        have Hx := Lib.hid hx
        have hin : (4 : Int) < ((n - (fr + k) : Nat) : Int) := by omega
        have hin2 : (0 : Int) ≤ (4 : Int) ∧ (4 : Int) < ((n - (fr + k) : Nat) : Int) := by omega
        clear hbody hr hl4 hx Hq2 hcut1 hcut2 hsl1 hsl2 hblk1 hblk2
        have hk0 : 0 < k := by omega
        by_cases hx165 : x = 165
        · subst hx165
          have hq := Hq.out
          rw [Hx.out, if_neg (by simp)] at hq
          obtain ⟨r4, hr4⟩ : ∃ s, s = r.take 4 := ⟨_, rfl⟩
          have hs4 : Sl w2 1 (some ad) 4 (c - (fr + k)) (bytesV r4) := by rw [hr4]; exact slb_to hs2 4 (by omega)
          have hcut4 := cutb_to .i64 (some ad) (n - (fr + k)) (c - (fr + k)) 4 4 rfl (by have := hs2.le; omega)
          obtain ⟨z, hz⟩ : ∃ z, (r4 == crc4 (crc body)) = z := ⟨_, rfl⟩
          have hqz : q = if z = true then (body, fr + k + 5, 0) else ([], 0, 12) := by
            rw [hq, ← hr4, ← hz]
            by_cases h : r4 = crc4 (crc body)
            · rw [if_neg (by simpa using h), if_pos (by simp [h])]
            · rw [if_pos h, if_neg (by simpa using h)]
          obtain ⟨ab, hab⟩ : ∃ ab, A1 = some ab := by
            cases A1 with
            | none => have := hs1.none rfl; omega
            | some ab => exact ⟨ab, rfl⟩
          subst hab
          have Hz := Lib.hid hz
          have Hqz := Lib.hid hqz
          have hb0 := hb
          clear hq hr4 hz hqz Hq Hx hs2 hb hk0b
          go_wp2_with fail
          --@region 45 11 get11.spec
          refine wp_region_run (by kernel_rfl) (by kernel_rfl) ?_
          apply RunL.pure
          · intro vs w hb hd; clear hd; simp only [List.take, putL, Act.put, List.setIfInBounds_toArray, List.set_cons_zero, List.set_cons_succ]; unfold StepOK; go_simp; exact ⟨Below.refl _ _, isV_mk _ _⟩
          apply RunL.pure
          · intro vs w hb hd; have d0 : isV _ (vs 0) w := hd 0 (by decide) (by kernel_rfl); unfold isV at d0; clear hd; have hq := hcut4; simp only [List.take, putL, Act.put, List.setIfInBounds_toArray, List.set_cons_zero, List.set_cons_succ]; unfold StepOK; go_simp; exact ⟨Below.refl _ _, isV_mk _ _⟩
          apply RunL.pure
          · intro vs w hb hd; clear hd; simp only [List.take, putL, Act.put, List.setIfInBounds_toArray, List.set_cons_zero, List.set_cons_succ]; unfold StepOK; go_simp; exact ⟨Below.refl _ _, isV_mk _ _⟩
          refine RunL.such (isB (crc4 (crc body))) (isB_stable _) ?_ ?_
          · intro vs w hb hd; have d2 : isV _ (vs 2) w := hd 2 (by decide) (by kernel_rfl); unfold isV at d2; clear hd; simp only [List.take, putL, Act.put, List.setIfInBounds_toArray, List.set_cons_zero, List.set_cons_succ]; unfold StepOK; go_simp; refine ⟨Below.refl _ _, (sum_any _ _ _ body _ (hs1.below hb) (by omega)).mono ?_⟩; rintro e w' ⟨rfl, h1, h2⟩; exact ⟨_, rfl, h2, _, _, _, rfl, h1⟩
          refine RunL.such (isV (.bool z)) (isV_stable _) ?_ ?_
          · intro vs w hb hd; have d1 : isV _ (vs 1) w := hd 1 (by decide) (by kernel_rfl); unfold isV at d1; have d3 := hd 3 (by decide) (by kernel_rfl); simp only [TR, Nat.reduceAdd, Nat.reduceSub, List.getD_cons_zero, List.getD_cons_succ] at d3; clear hd; obtain ⟨Aq, nq, cq, eq, hq⟩ := isB_elim d3; have hn4 : nq ≤ 4 := by { have := hq.blen; rw [crc4_length'] at this; omega }; simp only [List.take, putL, Act.put, List.setIfInBounds_toArray, List.set_cons_zero, List.set_cons_succ]; unfold StepOK; go_simp; refine ⟨Below.refl _ _, (equal_any _ _ _ _ _ _ r4 (crc4 (crc body)) _ (hs4.below hb) hq (by omega) (by omega)).mono ?_⟩; rintro e w' ⟨rfl, h1⟩; exact ⟨_, rfl, h1, by rw [Hz.out]; exact isV_mk _ _⟩
          apply RunL.pure
          · intro vs w hb hd; have d4 := hd 4 (by decide) (by kernel_rfl); simp only [TR, Nat.reduceAdd, Nat.reduceSub, List.getD_cons_zero, List.getD_cons_succ] at d4; clear hd; unfold isV at d4; simp only [List.take, putL, Act.put, List.setIfInBounds_toArray, List.set_cons_zero, List.set_cons_succ]; unfold StepOK; go_simp; exact ⟨Below.refl _ _, isV_mk _ _⟩
          apply RunL.pure
          · intro vs w hb hd; have d4 := hd 4 (by decide) (by kernel_rfl); simp only [TR, Nat.reduceAdd, Nat.reduceSub, List.getD_cons_zero, List.getD_cons_succ] at d4; have d5 : isV _ (vs 5) w := hd 5 (by decide) (by kernel_rfl); unfold isV at d5; clear hd; simp only [List.take, putL, Act.put, List.setIfInBounds_toArray, List.set_cons_zero, List.set_cons_succ]; unfold StepOK; go_simp; exact ⟨Below.refl _ _, isV_mk _ _⟩
          intro vs w1 hb hd
          have e0 : isV _ (vs 0) w1 := hd 0 (by decide)
          have e1 : isV _ (vs 1) w1 := hd 1 (by decide)
          have e2 : isV _ (vs 2) w1 := hd 2 (by decide)
          have e3 := hd 3 (by decide); simp only [TR, Nat.reduceAdd, Nat.reduceSub, List.getD_cons_zero, List.getD_cons_succ] at e3
          have e4 := hd 4 (by decide); simp only [TR, Nat.reduceAdd, Nat.reduceSub, List.getD_cons_zero, List.getD_cons_succ] at e4
          have e5 : isV _ (vs 5) w1 := hd 5 (by decide)
          have e6 : isV _ (vs 6) w1 := hd 6 (by decide)
          clear hd
          unfold isV at e0 e1 e2 e5 e6
          simp only [putL, Act.put, List.setIfInBounds_toArray, List.set_cons_zero, List.set_cons_succ, e0, e1, e2, e5, e6]
          clear e0 e1 e2 e5 e6
          --@end
          unfold isV at e4
          simp only [e4]
          have hb1 := hb0.trans (hb.mono hb0.size)
          have hs1 := hs1.below hb
          clear e3 e4 hb hb0 hs4 hcut4
          cases z with
          | true =>
            have hq := Hqz.out
            rw [if_pos rfl] at hq
            subst hq
            go_wp2_with fail
            refine (clone_any ab k _ body _ hs1 (by omega)).mono ?_; rintro e w5 ⟨v, rfl, hown, hb5⟩
            go_wp2_with fail
            go_ret3
            have hbl : body.length = k := hs1.blen
            refine ⟨_, rfl, ?_, hb1.trans (hb5.mono hb1.size)⟩
            rw [hbl]
            exact World.ownsRow.mono hown hb1.size
          | false =>
            have hq := Hqz.out
            rw [if_neg (by simp)] at hq
            subst hq
            go_wp2_with fail
            go_ret3
            exact ⟨_, rfl, World.ownsRow_nil _ _ _ _, hb1⟩
        · have hne : ((x.toNat : Int) != 165) = true := by
            simp
            intro h
            exact hx165 (UInt8.toNat_inj.1 (by simp; omega))
          have hq := Hq.out
          rw [Hx.out, if_pos (by simpa using hx165)] at hq
          subst hq
          go_wp2_with fail
          go_ret3
          exact ⟨_, rfl, World.ownsRow_nil _ _ _ _, hb⟩
  · have hq := Hq.out
    rw [if_pos (by simpa using he)] at hq
    subst hq
    have hne : ((er : Int) != 0) = true := by simp; omega
    go_enter Try.func45, Try.ntmps45
    go_wp2_with (go_at_call 31; refine (getUint_any _ _ _ l _ _ hs (by omega)).mono ?_; rintro e w' ⟨rfl, rfl⟩; rw [← Hg.out]; dsimp only)
    go_ret3
    exact ⟨_, rfl, World.ownsRow_nil _ _ _ _, Below.refl _ _⟩
end Go.Proofs.Ytbnifagmbhiblaa
