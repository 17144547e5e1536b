import Derived.Test.YtemegkapmgcffaaPureRootC
import Derived.Test.YtemegkapmgcffaaRkO
import Derived.Test.YtemegkapmgcffaaRkN
import Derived.Test.YtemegkapmgcffaaPick
import Derived.Test.YtemegkapmgcffaaMWb
/- RootSpoilt: its closure (printed by wip/gen/grtspoil.py). -/
namespace Go.Proofs.Ytemegkapmgcffaa
open Go.RowKit
set_option linter.unusedSimpArgs false
set_option linter.unusedVariables false

def isPk (len : Nat) : Value → World → Prop := fun v _ => ∃ m : Nat, m < len ∧ v = .int .i64 (m : Int)
theorem isPk_st {len : Nat} : Stable (isPk len) := fun _ _ _ _ h => h
/-- what stays along the closure's last statement: two boxes, and what is new -/
structure Rsp (B db nb : Nat) (w w' : World) : Prop where
  size : w.heap.size ≤ w'.heap.size
  block : ∀ q, (q = db ∨ q = nb ∨ B ≤ q) → q < w.heap.size → w'.heap[q]? = w.heap[q]?
theorem Rsp.below {B db nb : Nat} {w w' : World} (h : Below w.heap.size w w') : Rsp B db nb w w' := ⟨h.size, fun q _ hq => h.block q hq⟩
theorem Rsp.trans {B db nb : Nat} {w w1 w2 : World} (h : Rsp B db nb w w1) (k : Rsp B db nb w1 w2) : Rsp B db nb w w2 := ⟨Nat.le_trans h.size k.size, fun q hq hl => (k.block q hq (Nat.lt_of_lt_of_le hl h.size)).trans (h.block q hq hl)⟩
theorem Rsp.cell {B db nb : Nat} {w w' : World} {a : Addr} {v : Value} (h : Rsp B db nb w w') (hc : w.cell? a = some v) (hq : a.block = db ∨ a.block = nb ∨ B ≤ a.block) : w'.cell? a = some v :=
  (World.cell?_of_block (h.block _ hq (World.block_lt_of_cell? _ _ hc))).trans hc
def isZs (B z : Nat) : Value → World → Prop := fun v w => ∃ A c, v = .slice A z c ∧ Own B 5 1 w A z c (bytesV (List.replicate z 0))
def Rdb (db : Nat) (o : Obj) (w w' : World) : Prop := w.heap[db]? = some o → w'.heap[db]? = some o
theorem Rdb.below {db : Nat} {o : Obj} {w w' : World} (h : Below w.heap.size w w') : Rdb db o w w' := fun k => (h.block _ (heap_lt k)).trans k
theorem isZs_st (B z db nb : Nat) : StableR (Rsp B db nb) (isZs B z) := fun v w w' hr ⟨A, c, e, h⟩ => ⟨A, c, e, own_same h (fun a ha => hr.block _ (.inr (.inr (own_ltR h a ha).1)) (own_ltR h a ha).2)⟩
theorem append_sp {W wv w : World} {p : Nat} {D D' : Dk} {L : List Rsl} {K : List (Nat × Obj)} {nm : Nm} {s : ByteArray} {A : Option Addr} {n c db nb : Nat} {bs : List UInt8} {r : Int} {t : TypeId} {o1 o2 : Obj}
    (h : DskM W wv p D L K) (hb : Below wv.heap.size wv w) (hs : s = bstr nm) (hl : nm.length ≤ maxLen) (ho : Own wv.heap.size t 1 w A n c (bytesV bs)) (hn : n ≤ 100000000) (hr : appendD D nm bs = (r, D')) (hd : (db, o1) ∈ K) (hn2 : (nb, o2) ∈ K) :
    Calls Try.prog 33 #[.pointer (some ⟨p, 0, none⟩), .string s, .slice A n c] w fun x w' => ∃ v, x = .returned v ∧ Rsp wv.heap.size db nb w w' ∧ (v = .int .i64 r ∧ DskM W w' p D' L K) := by
  subst hs
  obtain ⟨F, h1, h2, h3, h4⟩ := h
  refine (Append_any (h1.below hb) nm hl ho.sl (fun a ha hne hf => by have := (own_ltR ho a ha).1; have := (h1.bound _ hf).2; omega) hn).mono ?_
  rintro x w' ⟨rfl, F', k2, k3⟩
  rw [hr] at k2
  have hK : ∀ κ, κ ∈ K → w.heap[κ.1]? = some κ.2 ∧ ¬ F κ.1 := fun κ hk => by
    have g := h4 κ hk
    exact ⟨(hb.block _ (heap_lt g.1)).trans g.1, g.2⟩
  refine ⟨_, rfl, ⟨k3.size, fun q hq hlt => k3.block q hlt (fun hf => ?_)⟩, by rw [hr], DskM.step (h1.below hb) (h2.trans (hb.mono h2.size)) (fun ρ hr => (h3 ρ hr).below hb) hK k2 k3⟩
  rcases hq with rfl | rfl | hq
  · exact (h4 _ hd).2 hf
  · exact (h4 _ hn2).2 hf
  · have := (h1.bound _ hf).2
    omega
theorem slot_put (i : Nat) (o b c : Slot) : slotI i (putB i o b) (putC i o c) = o := by
  unfold slotI putB putC
  split <;> rfl
theorem put_put (i : Nat) (o o2 b : Slot) : putB i o2 (putB i o b) = putB i o2 b ∧ putC i o2 (putC i o b) = putC i o2 b := by
  unfold putB putC
  split <;> exact ⟨rfl, rfl⟩
theorem slen_put (i : Nat) (o b c : Slot) : slen (putB i o b) + slen (putC i o c) ≤ slen o + (slen b + slen c) := by
  unfold putB putC
  split <;> omega
theorem file_pos {r : Rt} (h : okR r) : 1 ≤ (bytesR r.s r.b r.x).1.length := by
  obtain ⟨body, h1, h2, h3⟩ := ok_frame h
  rw [h1]
  simp only [frm_len]
  omega
set_option maxRecDepth 100000 in
set_option maxHeartbeats 16000000 in
theorem spoil_any {W w : World} {p : Nat} {b c : Slot} {L : List Rsl} {K : List (Nat × Obj)} (h : DskM W w p ⟨1048576, -1, false, mkS none b c⟩ L K) {gb db nb : Nat} {gone : Bool} {nz : Nat} (hgb : (gb, Obj.cells #[.bool gone] 4) ∈ K) (hdb : (db, Obj.cells #[.pointer (some ⟨p, 0, none⟩)] 34) ∈ K) (hnb : (nb, Obj.cells #[.int .u8 (nz : Int)] 5) ∈ K) (hnz : nz ≤ 255) (i : Nat) (hi : i ≤ 1000) (r : Rt) (hok : okR r) (hsl : slotI i b c = fileR r) (hlen : slen b + slen c ≤ 2000) (cut : Int) :
    Calls Try.prog 41 #[.int .i64 (i : Int), .int .i64 cut, .pointer (some ⟨gb, 0, none⟩), .pointer (some ⟨db, 0, none⟩), .pointer (some ⟨nb, 0, none⟩)] w fun x w' => x = .returned (.int .i64 0) ∧ ∃ o, BadS o ∧ slen o ≤ slen b + slen c + 200 ∧ DskM W w' p ⟨1048576, -1, false, mkS none (putB i o b) (putC i o c)⟩ L K := by
  obtain ⟨len, hlen0⟩ : ∃ len, len = (bytesR r.s r.b r.x).1.length := ⟨_, rfl⟩
  have hl1 : 1 ≤ len := by rw [hlen0]; exact file_pos hok
  have hl2 : len ≤ slen b + slen c := by
    have h1 : slen (slotI i b c) = len := by rw [hsl, hlen0]; rfl
    unfold slotI at h1
    split at h1 <;> omega
  have hl3 : len ≤ 2000 := by omega
  have x0 := h.cellK (j := 0) hgb rfl
  have HDB := Lib.hid (h.cellK (j := 0) hdb rfl)
  have HNB := Lib.hid (h.cellK (j := 0) hnb rfl)
  have HDBo := Lib.hid (h.held hdb)
  have HM := Lib.hid h
  have HSZ := Lib.hid (show (lookF (mkS none b c) (rnm i)).b.length = len from (size_I i hsl).trans hlen0.symm)
  have HSL := Lib.hid hsl
  have HOK := Lib.hid hok
  have HL0 := Lib.hid hlen0
  have HLEN := Lib.hid hlen
  have HK := Lib.hid (And.intro hgb (And.intro hdb hnb))
  have hmx : max (len : Int) 1 = (len : Int) := by omega
  have HMX := Lib.hid (show isV (.int .i64 (len : Int)) (.int .i64 (max (len : Int) 1)) w by rw [hmx]; exact isV_mk _ _)
  clear h hgb hdb hnb hok hsl hlen hlen0
  go_enter Try.func41, Try.ntmps41
  rcases Nat.mod_two_eq_zero_or_one i with hp | hp
  · have e2 : (i : Int) % 2 = 0 := by omega
    have HNM := Lib.hid (show (⟨#[114, 111, 111, 116, 48]⟩ : ByteArray) = bstr (rnm i) by unfold rnm; rw [if_pos hp]; rfl)
    clear hp
    cases gone with
    | true =>
      have hc := remove_m HM.out HNM.out (remove_I i HSL.out)
      have hx1 := HDB.out
      go_wp2_with fail
      refine hc.mono ?_; rintro e w1 ⟨rfl, h1⟩
      go_wp2_with fail
      go_ret
      exact ⟨rfl, none, bad_none, Nat.zero_le _, h1⟩
    | false =>
      go_upto_region 4 with fail
      clear e2 x0
      --@region 41 4 sp4.spec
      refine wp_region_runV [5, 7, 8] (fun _ wj => DskM W wj p ⟨1048576, -1, false, mkS none b c⟩ L K) (by kernel_rfl) (by kernel_rfl) (by kernel_rfl) (R := Rdb db (Obj.cells #[.pointer (some ⟨p, 0, none⟩)] 34)) (fun _ _ h => Rdb.below h) (fun _ _ _ h k x => k (h x)) (fun _ _ _ hb h => h.below hb) HM.out ?_
      apply RunE.pure (by decide)
      · intro vs w hb hd; clear hd; have hx1 := row_cell (hb HDBo.out) (j := 0) rfl; simp only [List.take, putL, Act.put, List.setIfInBounds_toArray, List.set_cons_zero, List.set_cons_succ]; unfold StepOK; go_simp; exact ⟨Below.refl _ _, isV_mk _ _⟩
      apply RunE.pure (by decide)
      · intro vs w hb hd; clear hd; simp only [List.take, putL, Act.put, List.setIfInBounds_toArray, List.set_cons_zero, List.set_cons_succ]; unfold StepOK; go_simp; exact ⟨Below.refl _ _, isV_mk _ _⟩
      apply RunE.pure (by decide)
      · intro vs w hb hd; clear hd; simp only [List.take, putL, Act.put, List.setIfInBounds_toArray, List.set_cons_zero, List.set_cons_succ]; unfold StepOK; go_simp; exact ⟨Below.refl _ _, isV_mk _ _⟩
      apply RunE.pure (by decide)
      · intro vs w hb hd; clear hd; have hx1 := row_cell (hb HDBo.out) (j := 0) rfl; simp only [List.take, putL, Act.put, List.setIfInBounds_toArray, List.set_cons_zero, List.set_cons_succ]; unfold StepOK; go_simp; exact ⟨Below.refl _ _, isV_mk _ _⟩
      apply RunE.pure (by decide)
      · intro vs w hb hd; clear hd; simp only [List.take, putL, Act.put, List.setIfInBounds_toArray, List.set_cons_zero, List.set_cons_succ]; unfold StepOK; go_simp; exact ⟨Below.refl _ _, isV_mk _ _⟩
      refine RunE.effT (by decide) (fun v wj => isV (.int .i64 (len : Int)) v wj ∧ DskM W wj p ⟨1048576, -1, false, mkS none b c⟩ L K) (fun _ _ _ hb h => ⟨h.1, h.2.below hb⟩) (isV (.int .i64 (len : Int))) ((fun _ _ _ _ h => h)) ((fun _ _ h => h.1)) ?_ ?_
      · intro vs w hb hd hj; have d3 : isV _ (vs 3) w := hd 3 (by decide) (by kernel_rfl); unfold isV at d3; have d4 : isV _ (vs 4) w := hd 4 (by decide) (by kernel_rfl); unfold isV at d4; clear hd; have hj2 := hj; (try simp only [prevE, lastV, List.mem_cons, List.not_mem_nil, or_false, Nat.reduceEqDiff, Nat.reduceAdd, if_true, if_false, reduceIte, or_true, true_or, or_self] at hj2); clear hj; have hj3 := Lib.hid hj2; clear hj2; simp only [List.take, putL, Act.put, List.setIfInBounds_toArray, List.set_cons_zero, List.set_cons_succ]; unfold StepE; go_simp; refine ⟨Rdb.below (Below.refl _ _), (size_m hj3.out HNM.out HSZ.out).mono ?_⟩; rintro x w' ⟨rfl, h2⟩; exact ⟨_, rfl, fun _ => h2.held HK.out.2.1, isV_mk _ _, h2⟩
      refine RunE.such (by decide) (isV (.int .i64 (len : Int))) ((fun _ _ _ _ h => h)) ?_ ?_
      · intro vs w hb hd; have d5 := hd 5 (by decide) (by kernel_rfl); simp only [TR, Nat.reduceAdd, Nat.reduceSub, List.getD_cons_zero, List.getD_cons_succ] at d5; clear hd; unfold isV at d5; simp only [List.take, putL, Act.put, List.setIfInBounds_toArray, List.set_cons_zero, List.set_cons_succ]; unfold StepOK; go_simp; exact ⟨Below.refl _ _, isV_mk _ _⟩
      refine RunE.effT (by decide) (fun v wj => isPk len v wj ∧ DskM W wj p ⟨1048576, -1, false, mkS none b c⟩ L K) (fun _ _ _ hb h => ⟨h.1, h.2.below hb⟩) (isPk len) ((fun _ _ _ _ h => h)) ((fun _ _ h => h.1)) ?_ ?_
      · intro vs w hb hd hj; have d2 : isV _ (vs 2) w := hd 2 (by decide) (by kernel_rfl); unfold isV at d2; have d5 := hd 5 (by decide) (by kernel_rfl); simp only [TR, Nat.reduceAdd, Nat.reduceSub, List.getD_cons_zero, List.getD_cons_succ] at d5; have d6 := hd 6 (by decide) (by kernel_rfl); simp only [TR, Nat.reduceAdd, Nat.reduceSub, List.getD_cons_zero, List.getD_cons_succ] at d6; clear hd; have hj2 := hj; (try simp only [prevE, lastV, List.mem_cons, List.not_mem_nil, or_false, Nat.reduceEqDiff, Nat.reduceAdd, if_true, if_false, reduceIte, or_true, true_or, or_self] at hj2); clear hj; have hj3 := Lib.hid hj2; clear hj2; unfold isV at d6; simp only [List.take, putL, Act.put, List.setIfInBounds_toArray, List.set_cons_zero, List.set_cons_succ]; unfold StepE; go_simp; refine ⟨Rdb.below (Below.refl _ _), (pick_any cut len w (by omega) (by omega)).mono ?_⟩; rintro x w' ⟨⟨m, h1, rfl⟩, rfl⟩; exact ⟨_, rfl, fun h => h, ⟨m, h1, rfl⟩, hj3.out.2⟩
      refine RunE.effT (by decide) (fun v wj => isV (.int .i64 0) v wj ∧ ∃ k, k < len ∧ DskM W wj p ⟨1048576, -1, false, mkS none (putB i (some ((bytesR r.s r.b r.x).1.take k, k)) b) (putC i (some ((bytesR r.s r.b r.x).1.take k, k)) c)⟩ L K) (fun _ _ _ hb h => ⟨h.1, by obtain ⟨k, h1, h2⟩ := h.2; exact ⟨k, h1, h2.below hb⟩⟩) (isV (.int .i64 0)) ((fun _ _ _ _ h => h)) ((fun _ _ h => h.1)) ?_ ?_
      · intro vs w hb hd hj; have d0 : isV _ (vs 0) w := hd 0 (by decide) (by kernel_rfl); unfold isV at d0; have d1 : isV _ (vs 1) w := hd 1 (by decide) (by kernel_rfl); unfold isV at d1; have d7 := hd 7 (by decide) (by kernel_rfl); simp only [TR, Nat.reduceAdd, Nat.reduceSub, List.getD_cons_zero, List.getD_cons_succ] at d7; clear hd; have hj2 := hj; (try simp only [prevE, lastV, List.mem_cons, List.not_mem_nil, or_false, Nat.reduceEqDiff, Nat.reduceAdd, if_true, if_false, reduceIte, or_true, true_or, or_self] at hj2); clear hj; have hj3 := Lib.hid hj2; clear hj2; obtain ⟨m, hm, e7⟩ := d7; simp only [List.take, putL, Act.put, List.setIfInBounds_toArray, List.set_cons_zero, List.set_cons_succ]; unfold StepE; go_simp; refine ⟨Rdb.below (Below.refl _ _), (cut_m hj3.out.2 HNM.out (cut_I i HSL.out m (by have := HL0.out; show m ≤ (bytesR r.s r.b r.x).1.length; omega))).mono ?_⟩; rintro x w' ⟨rfl, h2⟩; exact ⟨_, rfl, fun _ => h2.held HK.out.2.1, isV_mk _ _, m, hm, h2⟩
      refine RunE.such (by decide) (isV (.int .i64 0)) ((fun _ _ _ _ h => h)) ?_ ?_
      · intro vs w hb hd; have d0 : isV _ (vs 0) w := hd 0 (by decide) (by kernel_rfl); unfold isV at d0; have d1 : isV _ (vs 1) w := hd 1 (by decide) (by kernel_rfl); unfold isV at d1; have d2 : isV _ (vs 2) w := hd 2 (by decide) (by kernel_rfl); unfold isV at d2; have d3 : isV _ (vs 3) w := hd 3 (by decide) (by kernel_rfl); unfold isV at d3; have d4 : isV _ (vs 4) w := hd 4 (by decide) (by kernel_rfl); unfold isV at d4; have d5 := hd 5 (by decide) (by kernel_rfl); simp only [TR, Nat.reduceAdd, Nat.reduceSub, List.getD_cons_zero, List.getD_cons_succ] at d5; have d6 := hd 6 (by decide) (by kernel_rfl); simp only [TR, Nat.reduceAdd, Nat.reduceSub, List.getD_cons_zero, List.getD_cons_succ] at d6; have d7 := hd 7 (by decide) (by kernel_rfl); simp only [TR, Nat.reduceAdd, Nat.reduceSub, List.getD_cons_zero, List.getD_cons_succ] at d7; have d8 := hd 8 (by decide) (by kernel_rfl); simp only [TR, Nat.reduceAdd, Nat.reduceSub, List.getD_cons_zero, List.getD_cons_succ] at d8; clear hd; unfold isV at d8; simp only [List.take, putL, Act.put, List.setIfInBounds_toArray, List.set_cons_zero, List.set_cons_succ]; unfold StepOK; go_simp; exact ⟨Below.refl _ _, isV_mk _ _⟩
      intro vs w1 hb hd hj
      try simp only [prevE, lastV, List.mem_cons, List.not_mem_nil, or_false, Nat.reduceEqDiff, Nat.reduceAdd, if_true, if_false, reduceIte, or_true, true_or, or_self] at hj
      have e0 : isV _ (vs 0) w1 := hd 0 (by decide)
      have e1 : isV _ (vs 1) w1 := hd 1 (by decide)
      have e2 : isV _ (vs 2) w1 := hd 2 (by decide)
      have e3 : isV _ (vs 3) w1 := hd 3 (by decide)
      have e4 : isV _ (vs 4) w1 := hd 4 (by decide)
      have e6 := hd 6 (by decide); simp only [TR, Nat.reduceAdd, Nat.reduceSub, List.getD_cons_zero, List.getD_cons_succ] at e6
      have e9 := hd 9 (by decide); simp only [TR, Nat.reduceAdd, Nat.reduceSub, List.getD_cons_zero, List.getD_cons_succ] at e9
      clear hd
      unfold isV at e0 e1 e2 e3 e4
      simp only [putL, Act.put, List.setIfInBounds_toArray, List.set_cons_zero, List.set_cons_succ, e0, e1, e2, e3, e4]
      clear e0 e1 e2 e3 e4
      --@end
      obtain ⟨-, k, hk, h2⟩ := hj
      unfold isV at e9
      simp only [e9]
      clear e9
      clear hb
      obtain ⟨z, hz⟩ : ∃ z, z = nz % 101 := ⟨_, rfl⟩
      have HMOD := Lib.hid (show (nz : Int).tmod 101 = (z : Int) by rw [Int.tmod_eq_emod_of_nonneg (by omega)]; omega)
      have HZ := Lib.hid (show z ≤ 100000000 by omega)
      have hz100 : z ≤ 100 := by omega
      obtain ⟨wv, hwv⟩ : ∃ wv, wv = w1 := ⟨_, rfl⟩
      subst hwv
      have HM2 := Lib.hid h2
      have HDB2 := Lib.hid (h2.cellK (j := 0) HK.out.2.1 rfl)
      have HNB2 := Lib.hid (h2.cellK (j := 0) HK.out.2.2 rfl)
      have hap := append_I (room := 1048576) i (slot_put i (some ((bytesR r.s r.b r.x).1.take k, k)) b c) (List.replicate z 0) (by
        have h8 := slen_put i (some ((bytesR r.s r.b r.x).1.take k, k)) b c
        have h9 : slen (some ((bytesR r.s r.b r.x).1.take k, k)) ≤ k := by show ((bytesR r.s r.b r.x).1.take k).length ≤ k; rw [List.length_take]; omega
        have := HLEN.out
        rw [List.length_replicate]
        omega)
      rw [(put_put i _ _ b).1, (put_put i _ _ c).2] at hap
      obtain ⟨o, ho⟩ : ∃ o : Slot, o = some ((bytesR r.s r.b r.x).1.take k ++ List.replicate z 0, k) := ⟨_, rfl⟩
      have HBad := Lib.hid (show BadS o ∧ slen o ≤ slen b + slen c + 200 by
        rw [ho]
        refine ⟨bad_cut HOK.out k z k (by rw [← HL0.out]; omega), ?_⟩
        show ((bytesR r.s r.b r.x).1.take k ++ List.replicate z 0).length ≤ slen b + slen c + 200
        rw [List.length_append, List.length_take, List.length_replicate]
        omega)
      obtain ⟨D3, hD3⟩ : ∃ D3 : Dk, D3 = ⟨1048576, -1, false, mkS none (putB i o b) (putC i o c)⟩ := ⟨_, rfl⟩
      have HAP := Lib.hid (show appendD _ (rnm i) (List.replicate z 0) = (0, D3) from hap.trans (by rw [hD3, ho]))
      have HD3 := Lib.hid hD3
      obtain ⟨i0, hi0, hz0, hz1, hz2⟩ := info_parts infoByte
      have HIz := Lib.hid (And.intro hi0 (And.intro hz0 (And.intro hz1 hz2)))
      have HW0 := Lib.hid (show IntKind.i64.wrap (0 + 0) = 0 by rfl)
      clear hap h2 hz ho hD3 hi0 hz0 hz1 hz2 hk
      (try clear e5 e7 e8)
      go_upto_region 5 with fail
      --@region 41 5 sp5.spec
      refine wp_region_runN [6] (fun _ wj => Below wv.heap.size wv wj) (by kernel_rfl) (by kernel_rfl) (by kernel_rfl) (R := Rsp wv.heap.size db nb) (fun _ _ h => Rsp.below h) (fun _ _ _ => Rsp.trans) (fun _ _ _ hb h => h.trans (hb.mono h.size)) (Below.refl _ _) ?_
      apply RunN.pure (by decide)
      · intro vs w hb hd; clear hd; simp only [List.take, putL, Act.put, List.setIfInBounds_toArray, List.set_cons_zero, List.set_cons_succ]; unfold StepOK; go_simp; exact ⟨Below.refl _ _, isV_mk _ _⟩
      apply RunN.pure (by decide)
      · intro vs w hb hd; clear hd; have hx1 := Rsp.cell hb HDB2.out (.inl rfl); simp only [List.take, putL, Act.put, List.setIfInBounds_toArray, List.set_cons_zero, List.set_cons_succ]; unfold StepOK; go_simp; exact ⟨Below.refl _ _, isV_mk _ _⟩
      apply RunN.pure (by decide)
      · intro vs w hb hd; clear hd; simp only [List.take, putL, Act.put, List.setIfInBounds_toArray, List.set_cons_zero, List.set_cons_succ]; unfold StepOK; go_simp; exact ⟨Below.refl _ _, isV_mk _ _⟩
      apply RunN.pure (by decide)
      · intro vs w hb hd; clear hd; have hx1 := Rsp.cell hb HNB2.out (.inr (.inl rfl)); simp only [List.take, putL, Act.put, List.setIfInBounds_toArray, List.set_cons_zero, List.set_cons_succ]; unfold StepOK; go_simp; exact ⟨Below.refl _ _, isV_mk _ _⟩
      refine RunN.such (by decide) (isV (.int .u8 (z : Int))) ((fun _ _ _ _ h => h)) ?_ ?_
      · intro vs w hb hd; have d3 : isV _ (vs 3) w := hd 3 (by decide) (by kernel_rfl); unfold isV at d3; clear hd; have hm := HMOD.out; simp only [List.take, putL, Act.put, List.setIfInBounds_toArray, List.set_cons_zero, List.set_cons_succ]; unfold StepOK; go_simp; exact ⟨Below.refl _ _, isV_mk _ _⟩
      refine RunN.such (by decide) (isZs wv.heap.size z) (isZs_st _ _ _ _) ?_ ?_
      · intro vs w hb hd; have d4 := hd 4 (by decide) (by kernel_rfl); simp only [TR, Nat.reduceAdd, Nat.reduceSub, List.getD_cons_zero, List.getD_cons_succ] at d4; clear hd; unfold isV at d4; obtain ⟨hi, hz0, hz1, hz2⟩ := HIz.out; obtain ⟨w', hrun, r1, r2⟩ := run_make_full (P := Try.prog) w wv.heap.size 22 5 i0 (.int .u8 0) 1 Try.underlying22 hi hz0 hz1 .u8 .u8 z (by rw [hz2]; omega) (by unfold maxLen; omega) (hb.1); have HR1 := Lib.hid (made_z r1); have HR2 := Lib.hid (grownBy_below r2); clear r1 r2 hi hz0 hz1 hz2; simp only [List.take, putL, Act.put, List.setIfInBounds_toArray, List.set_cons_zero, List.set_cons_succ]; unfold StepOK; go_simp; exact ⟨HR2.out, _, _, rfl, HR1.out⟩
      refine RunN.effV (c := (.int .i64 0)) (by decide) (fun v wj => v = .int .i64 0 ∧ DskM W wj p D3 L K) (fun _ _ _ hb h => ⟨h.1, h.2.below hb⟩) (by rfl) (fun v w h => h.1) ?_ ?_
      · intro vs w hb hd hj; have d1 : isV _ (vs 1) w := hd 1 (by decide) (by kernel_rfl); unfold isV at d1; have d2 : isV _ (vs 2) w := hd 2 (by decide) (by kernel_rfl); unfold isV at d2; have d5 := hd 5 (by decide) (by kernel_rfl); simp only [TR, Nat.reduceAdd, Nat.reduceSub, List.getD_cons_zero, List.getD_cons_succ] at d5; clear hd; have hj2 := hj; (try simp only [prevE, lastV, List.mem_cons, List.not_mem_nil, or_false, Nat.reduceEqDiff, Nat.reduceAdd, if_true, if_false, reduceIte, or_true, true_or, or_self] at hj2); clear hj; have hj3 := Lib.hid hj2; clear hj2; obtain ⟨A5, c5, e5, o5⟩ := d5; have HO5 := Lib.hid o5; clear o5; simp only [List.take, putL, Act.put, List.setIfInBounds_toArray, List.set_cons_zero, List.set_cons_succ]; unfold StepE; go_simp; exact ⟨Rsp.below (Below.refl _ _), append_sp HM2.out hj3.out HNM.out (rnm_max i) HO5.out HZ.out HAP.out HK.out.2.1 HK.out.2.2⟩
      apply RunN.pure (by decide)
      · intro vs w hb hd; have d0 : isV _ (vs 0) w := hd 0 (by decide) (by kernel_rfl); unfold isV at d0; have d6 : isV _ (vs 6) w := hd 6 (by decide) (by kernel_rfl); unfold isV at d6; clear hd; have hw0 := HW0.out; simp only [List.take, putL, Act.put, List.setIfInBounds_toArray, List.set_cons_zero, List.set_cons_succ]; unfold StepOK; go_simp; exact ⟨Below.refl _ _, isV_mk _ _⟩
      apply RunN.pure (by decide)
      · intro vs w hb hd; have d0 : isV _ (vs 0) w := hd 0 (by decide) (by kernel_rfl); unfold isV at d0; have d1 : isV _ (vs 1) w := hd 1 (by decide) (by kernel_rfl); unfold isV at d1; have d2 : isV _ (vs 2) w := hd 2 (by decide) (by kernel_rfl); unfold isV at d2; have d3 : isV _ (vs 3) w := hd 3 (by decide) (by kernel_rfl); unfold isV at d3; have d4 := hd 4 (by decide) (by kernel_rfl); simp only [TR, Nat.reduceAdd, Nat.reduceSub, List.getD_cons_zero, List.getD_cons_succ] at d4; have d5 := hd 5 (by decide) (by kernel_rfl); simp only [TR, Nat.reduceAdd, Nat.reduceSub, List.getD_cons_zero, List.getD_cons_succ] at d5; have d6 : isV _ (vs 6) w := hd 6 (by decide) (by kernel_rfl); unfold isV at d6; have d7 : isV _ (vs 7) w := hd 7 (by decide) (by kernel_rfl); unfold isV at d7; clear hd; simp only [List.take, putL, Act.put, List.setIfInBounds_toArray, List.set_cons_zero, List.set_cons_succ]; unfold StepOK; go_simp; exact ⟨Below.refl _ _, isV_mk _ _⟩
      intro vs w1 hb hd hj
      try simp only [prevE, lastV, List.mem_cons, List.not_mem_nil, or_false, Nat.reduceEqDiff, Nat.reduceAdd, if_true, if_false, reduceIte, or_true, true_or, or_self] at hj
      have e0 : isV _ (vs 0) w1 := hd 0 (by decide)
      have e1 : isV _ (vs 1) w1 := hd 1 (by decide)
      have e2 : isV _ (vs 2) w1 := hd 2 (by decide)
      have e3 : isV _ (vs 3) w1 := hd 3 (by decide)
      have e4 := hd 4 (by decide); simp only [TR, Nat.reduceAdd, Nat.reduceSub, List.getD_cons_zero, List.getD_cons_succ] at e4
      have e5 := hd 5 (by decide); simp only [TR, Nat.reduceAdd, Nat.reduceSub, List.getD_cons_zero, List.getD_cons_succ] at e5
      have e6 : isV _ (vs 6) w1 := hd 6 (by decide)
      have e7 : isV _ (vs 7) w1 := hd 7 (by decide)
      have e8 : isV _ (vs 8) w1 := hd 8 (by decide)
      clear hd
      unfold isV at e0 e1 e2 e3 e6 e7 e8
      simp only [putL, Act.put, List.setIfInBounds_toArray, List.set_cons_zero, List.set_cons_succ, e0, e1, e2, e3, e6, e7, e8]
      clear e0 e1 e2 e3 e6 e7 e8
      --@end
      go_wp2_with fail
      go_ret
      obtain ⟨-, h9⟩ := hj
      rw [HD3.out] at h9
      exact ⟨rfl, o, HBad.out.1, HBad.out.2, h9⟩
  · have e2 : (i : Int) % 2 = 1 := by omega
    have HNM := Lib.hid (show (⟨#[114, 111, 111, 116, 49]⟩ : ByteArray) = bstr (rnm i) by unfold rnm; rw [if_neg (by omega)]; rfl)
    clear hp
    cases gone with
    | true =>
      have hc := remove_m HM.out HNM.out (remove_I i HSL.out)
      have hx1 := HDB.out
      go_wp2_with fail
      refine hc.mono ?_; rintro e w1 ⟨rfl, h1⟩
      go_wp2_with fail
      go_ret
      exact ⟨rfl, none, bad_none, Nat.zero_le _, h1⟩
    | false =>
      go_upto_region 4 with fail
      clear e2 x0
      --@region 41 4 sp4.spec
      refine wp_region_runV [5, 7, 8] (fun _ wj => DskM W wj p ⟨1048576, -1, false, mkS none b c⟩ L K) (by kernel_rfl) (by kernel_rfl) (by kernel_rfl) (R := Rdb db (Obj.cells #[.pointer (some ⟨p, 0, none⟩)] 34)) (fun _ _ h => Rdb.below h) (fun _ _ _ h k x => k (h x)) (fun _ _ _ hb h => h.below hb) HM.out ?_
      apply RunE.pure (by decide)
      · intro vs w hb hd; clear hd; have hx1 := row_cell (hb HDBo.out) (j := 0) rfl; simp only [List.take, putL, Act.put, List.setIfInBounds_toArray, List.set_cons_zero, List.set_cons_succ]; unfold StepOK; go_simp; exact ⟨Below.refl _ _, isV_mk _ _⟩
      apply RunE.pure (by decide)
      · intro vs w hb hd; clear hd; simp only [List.take, putL, Act.put, List.setIfInBounds_toArray, List.set_cons_zero, List.set_cons_succ]; unfold StepOK; go_simp; exact ⟨Below.refl _ _, isV_mk _ _⟩
      apply RunE.pure (by decide)
      · intro vs w hb hd; clear hd; simp only [List.take, putL, Act.put, List.setIfInBounds_toArray, List.set_cons_zero, List.set_cons_succ]; unfold StepOK; go_simp; exact ⟨Below.refl _ _, isV_mk _ _⟩
      apply RunE.pure (by decide)
      · intro vs w hb hd; clear hd; have hx1 := row_cell (hb HDBo.out) (j := 0) rfl; simp only [List.take, putL, Act.put, List.setIfInBounds_toArray, List.set_cons_zero, List.set_cons_succ]; unfold StepOK; go_simp; exact ⟨Below.refl _ _, isV_mk _ _⟩
      apply RunE.pure (by decide)
      · intro vs w hb hd; clear hd; simp only [List.take, putL, Act.put, List.setIfInBounds_toArray, List.set_cons_zero, List.set_cons_succ]; unfold StepOK; go_simp; exact ⟨Below.refl _ _, isV_mk _ _⟩
      refine RunE.effT (by decide) (fun v wj => isV (.int .i64 (len : Int)) v wj ∧ DskM W wj p ⟨1048576, -1, false, mkS none b c⟩ L K) (fun _ _ _ hb h => ⟨h.1, h.2.below hb⟩) (isV (.int .i64 (len : Int))) ((fun _ _ _ _ h => h)) ((fun _ _ h => h.1)) ?_ ?_
      · intro vs w hb hd hj; have d3 : isV _ (vs 3) w := hd 3 (by decide) (by kernel_rfl); unfold isV at d3; have d4 : isV _ (vs 4) w := hd 4 (by decide) (by kernel_rfl); unfold isV at d4; clear hd; have hj2 := hj; (try simp only [prevE, lastV, List.mem_cons, List.not_mem_nil, or_false, Nat.reduceEqDiff, Nat.reduceAdd, if_true, if_false, reduceIte, or_true, true_or, or_self] at hj2); clear hj; have hj3 := Lib.hid hj2; clear hj2; simp only [List.take, putL, Act.put, List.setIfInBounds_toArray, List.set_cons_zero, List.set_cons_succ]; unfold StepE; go_simp; refine ⟨Rdb.below (Below.refl _ _), (size_m hj3.out HNM.out HSZ.out).mono ?_⟩; rintro x w' ⟨rfl, h2⟩; exact ⟨_, rfl, fun _ => h2.held HK.out.2.1, isV_mk _ _, h2⟩
      refine RunE.such (by decide) (isV (.int .i64 (len : Int))) ((fun _ _ _ _ h => h)) ?_ ?_
      · intro vs w hb hd; have d5 := hd 5 (by decide) (by kernel_rfl); simp only [TR, Nat.reduceAdd, Nat.reduceSub, List.getD_cons_zero, List.getD_cons_succ] at d5; clear hd; unfold isV at d5; simp only [List.take, putL, Act.put, List.setIfInBounds_toArray, List.set_cons_zero, List.set_cons_succ]; unfold StepOK; go_simp; exact ⟨Below.refl _ _, isV_mk _ _⟩
      refine RunE.effT (by decide) (fun v wj => isPk len v wj ∧ DskM W wj p ⟨1048576, -1, false, mkS none b c⟩ L K) (fun _ _ _ hb h => ⟨h.1, h.2.below hb⟩) (isPk len) ((fun _ _ _ _ h => h)) ((fun _ _ h => h.1)) ?_ ?_
      · intro vs w hb hd hj; have d2 : isV _ (vs 2) w := hd 2 (by decide) (by kernel_rfl); unfold isV at d2; have d5 := hd 5 (by decide) (by kernel_rfl); simp only [TR, Nat.reduceAdd, Nat.reduceSub, List.getD_cons_zero, List.getD_cons_succ] at d5; have d6 := hd 6 (by decide) (by kernel_rfl); simp only [TR, Nat.reduceAdd, Nat.reduceSub, List.getD_cons_zero, List.getD_cons_succ] at d6; clear hd; have hj2 := hj; (try simp only [prevE, lastV, List.mem_cons, List.not_mem_nil, or_false, Nat.reduceEqDiff, Nat.reduceAdd, if_true, if_false, reduceIte, or_true, true_or, or_self] at hj2); clear hj; have hj3 := Lib.hid hj2; clear hj2; unfold isV at d6; simp only [List.take, putL, Act.put, List.setIfInBounds_toArray, List.set_cons_zero, List.set_cons_succ]; unfold StepE; go_simp; refine ⟨Rdb.below (Below.refl _ _), (pick_any cut len w (by omega) (by omega)).mono ?_⟩; rintro x w' ⟨⟨m, h1, rfl⟩, rfl⟩; exact ⟨_, rfl, fun h => h, ⟨m, h1, rfl⟩, hj3.out.2⟩
      refine RunE.effT (by decide) (fun v wj => isV (.int .i64 0) v wj ∧ ∃ k, k < len ∧ DskM W wj p ⟨1048576, -1, false, mkS none (putB i (some ((bytesR r.s r.b r.x).1.take k, k)) b) (putC i (some ((bytesR r.s r.b r.x).1.take k, k)) c)⟩ L K) (fun _ _ _ hb h => ⟨h.1, by obtain ⟨k, h1, h2⟩ := h.2; exact ⟨k, h1, h2.below hb⟩⟩) (isV (.int .i64 0)) ((fun _ _ _ _ h => h)) ((fun _ _ h => h.1)) ?_ ?_
      · intro vs w hb hd hj; have d0 : isV _ (vs 0) w := hd 0 (by decide) (by kernel_rfl); unfold isV at d0; have d1 : isV _ (vs 1) w := hd 1 (by decide) (by kernel_rfl); unfold isV at d1; have d7 := hd 7 (by decide) (by kernel_rfl); simp only [TR, Nat.reduceAdd, Nat.reduceSub, List.getD_cons_zero, List.getD_cons_succ] at d7; clear hd; have hj2 := hj; (try simp only [prevE, lastV, List.mem_cons, List.not_mem_nil, or_false, Nat.reduceEqDiff, Nat.reduceAdd, if_true, if_false, reduceIte, or_true, true_or, or_self] at hj2); clear hj; have hj3 := Lib.hid hj2; clear hj2; obtain ⟨m, hm, e7⟩ := d7; simp only [List.take, putL, Act.put, List.setIfInBounds_toArray, List.set_cons_zero, List.set_cons_succ]; unfold StepE; go_simp; refine ⟨Rdb.below (Below.refl _ _), (cut_m hj3.out.2 HNM.out (cut_I i HSL.out m (by have := HL0.out; show m ≤ (bytesR r.s r.b r.x).1.length; omega))).mono ?_⟩; rintro x w' ⟨rfl, h2⟩; exact ⟨_, rfl, fun _ => h2.held HK.out.2.1, isV_mk _ _, m, hm, h2⟩
      refine RunE.such (by decide) (isV (.int .i64 0)) ((fun _ _ _ _ h => h)) ?_ ?_
      · intro vs w hb hd; have d0 : isV _ (vs 0) w := hd 0 (by decide) (by kernel_rfl); unfold isV at d0; have d1 : isV _ (vs 1) w := hd 1 (by decide) (by kernel_rfl); unfold isV at d1; have d2 : isV _ (vs 2) w := hd 2 (by decide) (by kernel_rfl); unfold isV at d2; have d3 : isV _ (vs 3) w := hd 3 (by decide) (by kernel_rfl); unfold isV at d3; have d4 : isV _ (vs 4) w := hd 4 (by decide) (by kernel_rfl); unfold isV at d4; have d5 := hd 5 (by decide) (by kernel_rfl); simp only [TR, Nat.reduceAdd, Nat.reduceSub, List.getD_cons_zero, List.getD_cons_succ] at d5; have d6 := hd 6 (by decide) (by kernel_rfl); simp only [TR, Nat.reduceAdd, Nat.reduceSub, List.getD_cons_zero, List.getD_cons_succ] at d6; have d7 := hd 7 (by decide) (by kernel_rfl); simp only [TR, Nat.reduceAdd, Nat.reduceSub, List.getD_cons_zero, List.getD_cons_succ] at d7; have d8 := hd 8 (by decide) (by kernel_rfl); simp only [TR, Nat.reduceAdd, Nat.reduceSub, List.getD_cons_zero, List.getD_cons_succ] at d8; clear hd; unfold isV at d8; simp only [List.take, putL, Act.put, List.setIfInBounds_toArray, List.set_cons_zero, List.set_cons_succ]; unfold StepOK; go_simp; exact ⟨Below.refl _ _, isV_mk _ _⟩
      intro vs w1 hb hd hj
      try simp only [prevE, lastV, List.mem_cons, List.not_mem_nil, or_false, Nat.reduceEqDiff, Nat.reduceAdd, if_true, if_false, reduceIte, or_true, true_or, or_self] at hj
      have e0 : isV _ (vs 0) w1 := hd 0 (by decide)
      have e1 : isV _ (vs 1) w1 := hd 1 (by decide)
      have e2 : isV _ (vs 2) w1 := hd 2 (by decide)
      have e3 : isV _ (vs 3) w1 := hd 3 (by decide)
      have e4 : isV _ (vs 4) w1 := hd 4 (by decide)
      have e6 := hd 6 (by decide); simp only [TR, Nat.reduceAdd, Nat.reduceSub, List.getD_cons_zero, List.getD_cons_succ] at e6
      have e9 := hd 9 (by decide); simp only [TR, Nat.reduceAdd, Nat.reduceSub, List.getD_cons_zero, List.getD_cons_succ] at e9
      clear hd
      unfold isV at e0 e1 e2 e3 e4
      simp only [putL, Act.put, List.setIfInBounds_toArray, List.set_cons_zero, List.set_cons_succ, e0, e1, e2, e3, e4]
      clear e0 e1 e2 e3 e4
      --@end
      obtain ⟨-, k, hk, h2⟩ := hj
      unfold isV at e9
      simp only [e9]
      clear e9
      clear hb
      obtain ⟨z, hz⟩ : ∃ z, z = nz % 101 := ⟨_, rfl⟩
      have HMOD := Lib.hid (show (nz : Int).tmod 101 = (z : Int) by rw [Int.tmod_eq_emod_of_nonneg (by omega)]; omega)
      have HZ := Lib.hid (show z ≤ 100000000 by omega)
      have hz100 : z ≤ 100 := by omega
      obtain ⟨wv, hwv⟩ : ∃ wv, wv = w1 := ⟨_, rfl⟩
      subst hwv
      have HM2 := Lib.hid h2
      have HDB2 := Lib.hid (h2.cellK (j := 0) HK.out.2.1 rfl)
      have HNB2 := Lib.hid (h2.cellK (j := 0) HK.out.2.2 rfl)
      have hap := append_I (room := 1048576) i (slot_put i (some ((bytesR r.s r.b r.x).1.take k, k)) b c) (List.replicate z 0) (by
        have h8 := slen_put i (some ((bytesR r.s r.b r.x).1.take k, k)) b c
        have h9 : slen (some ((bytesR r.s r.b r.x).1.take k, k)) ≤ k := by show ((bytesR r.s r.b r.x).1.take k).length ≤ k; rw [List.length_take]; omega
        have := HLEN.out
        rw [List.length_replicate]
        omega)
      rw [(put_put i _ _ b).1, (put_put i _ _ c).2] at hap
      obtain ⟨o, ho⟩ : ∃ o : Slot, o = some ((bytesR r.s r.b r.x).1.take k ++ List.replicate z 0, k) := ⟨_, rfl⟩
      have HBad := Lib.hid (show BadS o ∧ slen o ≤ slen b + slen c + 200 by
        rw [ho]
        refine ⟨bad_cut HOK.out k z k (by rw [← HL0.out]; omega), ?_⟩
        show ((bytesR r.s r.b r.x).1.take k ++ List.replicate z 0).length ≤ slen b + slen c + 200
        rw [List.length_append, List.length_take, List.length_replicate]
        omega)
      obtain ⟨D3, hD3⟩ : ∃ D3 : Dk, D3 = ⟨1048576, -1, false, mkS none (putB i o b) (putC i o c)⟩ := ⟨_, rfl⟩
      have HAP := Lib.hid (show appendD _ (rnm i) (List.replicate z 0) = (0, D3) from hap.trans (by rw [hD3, ho]))
      have HD3 := Lib.hid hD3
      obtain ⟨i0, hi0, hz0, hz1, hz2⟩ := info_parts infoByte
      have HIz := Lib.hid (And.intro hi0 (And.intro hz0 (And.intro hz1 hz2)))
      have HW0 := Lib.hid (show IntKind.i64.wrap (0 + 0) = 0 by rfl)
      clear hap h2 hz ho hD3 hi0 hz0 hz1 hz2 hk
      (try clear e5 e7 e8)
      go_upto_region 5 with fail
      --@region 41 5 sp5.spec
      refine wp_region_runN [6] (fun _ wj => Below wv.heap.size wv wj) (by kernel_rfl) (by kernel_rfl) (by kernel_rfl) (R := Rsp wv.heap.size db nb) (fun _ _ h => Rsp.below h) (fun _ _ _ => Rsp.trans) (fun _ _ _ hb h => h.trans (hb.mono h.size)) (Below.refl _ _) ?_
      apply RunN.pure (by decide)
      · intro vs w hb hd; clear hd; simp only [List.take, putL, Act.put, List.setIfInBounds_toArray, List.set_cons_zero, List.set_cons_succ]; unfold StepOK; go_simp; exact ⟨Below.refl _ _, isV_mk _ _⟩
      apply RunN.pure (by decide)
      · intro vs w hb hd; clear hd; have hx1 := Rsp.cell hb HDB2.out (.inl rfl); simp only [List.take, putL, Act.put, List.setIfInBounds_toArray, List.set_cons_zero, List.set_cons_succ]; unfold StepOK; go_simp; exact ⟨Below.refl _ _, isV_mk _ _⟩
      apply RunN.pure (by decide)
      · intro vs w hb hd; clear hd; simp only [List.take, putL, Act.put, List.setIfInBounds_toArray, List.set_cons_zero, List.set_cons_succ]; unfold StepOK; go_simp; exact ⟨Below.refl _ _, isV_mk _ _⟩
      apply RunN.pure (by decide)
      · intro vs w hb hd; clear hd; have hx1 := Rsp.cell hb HNB2.out (.inr (.inl rfl)); simp only [List.take, putL, Act.put, List.setIfInBounds_toArray, List.set_cons_zero, List.set_cons_succ]; unfold StepOK; go_simp; exact ⟨Below.refl _ _, isV_mk _ _⟩
      refine RunN.such (by decide) (isV (.int .u8 (z : Int))) ((fun _ _ _ _ h => h)) ?_ ?_
      · intro vs w hb hd; have d3 : isV _ (vs 3) w := hd 3 (by decide) (by kernel_rfl); unfold isV at d3; clear hd; have hm := HMOD.out; simp only [List.take, putL, Act.put, List.setIfInBounds_toArray, List.set_cons_zero, List.set_cons_succ]; unfold StepOK; go_simp; exact ⟨Below.refl _ _, isV_mk _ _⟩
      refine RunN.such (by decide) (isZs wv.heap.size z) (isZs_st _ _ _ _) ?_ ?_
      · intro vs w hb hd; have d4 := hd 4 (by decide) (by kernel_rfl); simp only [TR, Nat.reduceAdd, Nat.reduceSub, List.getD_cons_zero, List.getD_cons_succ] at d4; clear hd; unfold isV at d4; obtain ⟨hi, hz0, hz1, hz2⟩ := HIz.out; obtain ⟨w', hrun, r1, r2⟩ := run_make_full (P := Try.prog) w wv.heap.size 22 5 i0 (.int .u8 0) 1 Try.underlying22 hi hz0 hz1 .u8 .u8 z (by rw [hz2]; omega) (by unfold maxLen; omega) (hb.1); have HR1 := Lib.hid (made_z r1); have HR2 := Lib.hid (grownBy_below r2); clear r1 r2 hi hz0 hz1 hz2; simp only [List.take, putL, Act.put, List.setIfInBounds_toArray, List.set_cons_zero, List.set_cons_succ]; unfold StepOK; go_simp; exact ⟨HR2.out, _, _, rfl, HR1.out⟩
      refine RunN.effV (c := (.int .i64 0)) (by decide) (fun v wj => v = .int .i64 0 ∧ DskM W wj p D3 L K) (fun _ _ _ hb h => ⟨h.1, h.2.below hb⟩) (by rfl) (fun v w h => h.1) ?_ ?_
      · intro vs w hb hd hj; have d1 : isV _ (vs 1) w := hd 1 (by decide) (by kernel_rfl); unfold isV at d1; have d2 : isV _ (vs 2) w := hd 2 (by decide) (by kernel_rfl); unfold isV at d2; have d5 := hd 5 (by decide) (by kernel_rfl); simp only [TR, Nat.reduceAdd, Nat.reduceSub, List.getD_cons_zero, List.getD_cons_succ] at d5; clear hd; have hj2 := hj; (try simp only [prevE, lastV, List.mem_cons, List.not_mem_nil, or_false, Nat.reduceEqDiff, Nat.reduceAdd, if_true, if_false, reduceIte, or_true, true_or, or_self] at hj2); clear hj; have hj3 := Lib.hid hj2; clear hj2; obtain ⟨A5, c5, e5, o5⟩ := d5; have HO5 := Lib.hid o5; clear o5; simp only [List.take, putL, Act.put, List.setIfInBounds_toArray, List.set_cons_zero, List.set_cons_succ]; unfold StepE; go_simp; exact ⟨Rsp.below (Below.refl _ _), append_sp HM2.out hj3.out HNM.out (rnm_max i) HO5.out HZ.out HAP.out HK.out.2.1 HK.out.2.2⟩
      apply RunN.pure (by decide)
      · intro vs w hb hd; have d0 : isV _ (vs 0) w := hd 0 (by decide) (by kernel_rfl); unfold isV at d0; have d6 : isV _ (vs 6) w := hd 6 (by decide) (by kernel_rfl); unfold isV at d6; clear hd; have hw0 := HW0.out; simp only [List.take, putL, Act.put, List.setIfInBounds_toArray, List.set_cons_zero, List.set_cons_succ]; unfold StepOK; go_simp; exact ⟨Below.refl _ _, isV_mk _ _⟩
      apply RunN.pure (by decide)
      · intro vs w hb hd; have d0 : isV _ (vs 0) w := hd 0 (by decide) (by kernel_rfl); unfold isV at d0; have d1 : isV _ (vs 1) w := hd 1 (by decide) (by kernel_rfl); unfold isV at d1; have d2 : isV _ (vs 2) w := hd 2 (by decide) (by kernel_rfl); unfold isV at d2; have d3 : isV _ (vs 3) w := hd 3 (by decide) (by kernel_rfl); unfold isV at d3; have d4 := hd 4 (by decide) (by kernel_rfl); simp only [TR, Nat.reduceAdd, Nat.reduceSub, List.getD_cons_zero, List.getD_cons_succ] at d4; have d5 := hd 5 (by decide) (by kernel_rfl); simp only [TR, Nat.reduceAdd, Nat.reduceSub, List.getD_cons_zero, List.getD_cons_succ] at d5; have d6 : isV _ (vs 6) w := hd 6 (by decide) (by kernel_rfl); unfold isV at d6; have d7 : isV _ (vs 7) w := hd 7 (by decide) (by kernel_rfl); unfold isV at d7; clear hd; simp only [List.take, putL, Act.put, List.setIfInBounds_toArray, List.set_cons_zero, List.set_cons_succ]; unfold StepOK; go_simp; exact ⟨Below.refl _ _, isV_mk _ _⟩
      intro vs w1 hb hd hj
      try simp only [prevE, lastV, List.mem_cons, List.not_mem_nil, or_false, Nat.reduceEqDiff, Nat.reduceAdd, if_true, if_false, reduceIte, or_true, true_or, or_self] at hj
      have e0 : isV _ (vs 0) w1 := hd 0 (by decide)
      have e1 : isV _ (vs 1) w1 := hd 1 (by decide)
      have e2 : isV _ (vs 2) w1 := hd 2 (by decide)
      have e3 : isV _ (vs 3) w1 := hd 3 (by decide)
      have e4 := hd 4 (by decide); simp only [TR, Nat.reduceAdd, Nat.reduceSub, List.getD_cons_zero, List.getD_cons_succ] at e4
      have e5 := hd 5 (by decide); simp only [TR, Nat.reduceAdd, Nat.reduceSub, List.getD_cons_zero, List.getD_cons_succ] at e5
      have e6 : isV _ (vs 6) w1 := hd 6 (by decide)
      have e7 : isV _ (vs 7) w1 := hd 7 (by decide)
      have e8 : isV _ (vs 8) w1 := hd 8 (by decide)
      clear hd
      unfold isV at e0 e1 e2 e3 e6 e7 e8
      simp only [putL, Act.put, List.setIfInBounds_toArray, List.set_cons_zero, List.set_cons_succ, e0, e1, e2, e3, e6, e7, e8]
      clear e0 e1 e2 e3 e6 e7 e8
      --@end
      go_wp2_with fail
      go_ret
      obtain ⟨-, h9⟩ := hj
      rw [HD3.out] at h9
      exact ⟨rfl, o, HBad.out.1, HBad.out.2, h9⟩
end Go.Proofs.Ytemegkapmgcffaa
