import Derived.Test.YtemegkapmgcffaaGreatR2G
/- The document's disk, by value: Cut (printed by wip/gen/gr2h.py). -/
namespace Go.Proofs.YtemegkapmgcffaaGreat
open Go.RowKit
set_option linter.unusedSimpArgs false
set_option linter.unusedVariables false

section
variable {w : World} {room fuse : Int} {dark : Bool} {A : Option Addr} {n c : Nat} {es : List FE}
set_option maxRecDepth 100000 in
set_option maxHeartbeats 16000000 in
theorem r2Cut_any {G : Nat → Prop} (hG : ∀ q, w.heap.size ≤ q → G q) (hs : R2 G w A n c es) (hso : SrtF (es.map FE.f)) (hn : n ≤ 1000) (hf : -9223372036854775808 ≤ fuse ∧ fuse ≤ 9223372036854775807) (nm : Nm) (N : Int) (hlb : ∀ e, e ∈ es → e.f.b.length ≤ 400000) :
    Calls Tryz.prog 17 #[.agg #[.int .i64 room, .slice A n c, .int .i64 fuse, .bool dark], .string (bstr nm), .int .i64 N] w (R2P G w (cutD ⟨room, fuse, dark, es.map FE.f⟩ nm N)) := by
  have hb1 := below_alloc1 w (.cells #[.int .i64 room, .slice A n c, .int .i64 fuse, .bool dark] 30)
  have k0 := box_cellsR w [.int .i64 room, .slice A n c, .int .i64 fuse, .bool dark] 30 0 _ rfl
  have k1 := box_cellsR w [.int .i64 room, .slice A n c, .int .i64 fuse, .bool dark] 30 1 _ rfl
  have k2 := box_cellsR w [.int .i64 room, .slice A n c, .int .i64 fuse, .bool dark] 30 2 _ rfl
  have k3 := box_cellsR w [.int .i64 room, .slice A n c, .int .i64 fuse, .bool dark] 30 3 _ rfl
  have ob := new_own w [.int .i64 room, .slice A n c, .int .i64 fuse, .bool dark] 30 4 rfl (by unfold maxLen; omega)
  obtain ⟨w1, hw1⟩ : ∃ w1, w1 = w.alloc (.cells #[.int .i64 room, .slice A n c, .int .i64 fuse, .bool dark] 30) := ⟨_, rfl⟩
  have hT1 : (w.alloc (.cells [.int .i64 room, .slice A n c, .int .i64 fuse, .bool dark].toArray 30)) = w1 := hw1.symm
  rw [hT1] at k0 k1 k2 k3 ob
  rw [← hw1] at hb1
  have hz1 : w1.heap.size = w.heap.size + 1 := by rw [hw1]; simp
  have hb2 := below_alloc1 w1 (.cells #[.int .i64 0, .slice none 0 0, .int .i64 0, .bool false] 30)
  have orr := new_own w1 [.int .i64 0, .slice none 0 0, .int .i64 0, .bool false] 30 4 rfl (by unfold maxLen; omega)
  obtain ⟨w2, hw2⟩ : ∃ w2, w2 = w1.alloc (.cells #[.int .i64 0, .slice none 0 0, .int .i64 0, .bool false] 30) := ⟨_, rfl⟩
  have hT2 : (w1.alloc (.cells [.int .i64 0, .slice none 0 0, .int .i64 0, .bool false].toArray 30)) = w2 := hw2.symm
  rw [hT2, hz1] at orr
  rw [← hw2] at hb2
  have eW : (w.alloc (.cells #[.int .i64 room, .slice A n c, .int .i64 fuse, .bool dark] 30)).alloc (.cells #[.int .i64 0, .slice none 0 0, .int .i64 0, .bool false] 30) = w2 := by rw [hw2, hw1]
  have k0 := cellB hb2 k0
  have k1 := cellB hb2 k1
  have k2 := cellB hb2 k2
  have k3 := cellB hb2 k3
  have OB := Lib.hid (Own.below ob hb2)
  have OR := Lib.hid (Own.lower orr (show w.heap.size ≤ w.heap.size + 1 by omega))
  have HB := Lib.hid (hb1.trans (hb2.mono hb1.size))
  clear hb1 hb2 hw1 hw2 hT1 hT2 hz1 ob orr
  have hln := slFE_len hs.sl
  have HS0 := Lib.hid hs
  have HS := Lib.hid (hs.below HB.out)
  have HSO := Lib.hid hso
  have HG := Lib.hid hG
  have K0 := Lib.hid k0
  have K1 := Lib.hid k1
  have K2 := Lib.hid k2
  have K3 := Lib.hid k3
  have hc := r2asked_any (room := room) (fuse := fuse) (dark := dark) HS.out HSO.out (by omega) nm
  clear hs hso hG
  go_enter Tryz.func17, Tryz.ntmps17
  go_upto_region 1 with fail
  clear eW
  go_wp2_with fail
  refine hc.mono ?_; intro x w3 hx
  clear hc k0 k1 k2 k3
  obtain ⟨ak, hak⟩ : ∃ ak, askF (es.map FE.f) dark nm = ak := ⟨_, rfl⟩
  by_cases h0 : ak = 0
  · subst h0
    have hdk : dark = false := by
      cases dark with
      | false => rfl
      | true => unfold askF at hak; rw [if_pos rfl] at hak; cases hak
    subst hdk
    have ht : thereF (es.map FE.f) nm = true := by
      cases ht : thereF (es.map FE.f) nm with
      | true => rfl
      | false => unfold askF at hak; rw [if_neg (by simp), if_neg (by rw [ht]; simp)] at hak; cases hak
    obtain ⟨f, hff, hfn⟩ := there_true ht
    have hlk : lookF (es.map FE.f) nm = f := by unfold lookF; rw [ht, hff]
    obtain ⟨B, d, rfl, sB, lB, b3⟩ := asked_yes hx hak hlk
    have HE := Lib.hid (show cutD ⟨room, fuse, false, es.map FE.f⟩ nm N = if N < 0 ∨ (f.b.length : Int) < N then (2, ⟨room, fuse, false, es.map FE.f⟩) else deedD ⟨room, fuse, false, es.map FE.f⟩ (putF (es.map FE.f) ⟨nm, f.b.take N.toNat ++ [], N.toNat⟩ nm) by
      unfold cutD ofD
      rw [if_neg (by simp)]
      simp only [ht, hff]
      rw [List.append_nil, putF_set HSO.out ht _ rfl, hfn]
      by_cases hh : N < 0 ∨ (f.b.length : Int) < N
      · rw [if_pos hh, if_pos hh, if_pos (by simp)]
      · rw [if_neg hh, if_neg hh, if_neg (by simp)])
    have HLen := Lib.hid (show f.b.length ≤ 400000 by
      have h5 := List.mem_of_getElem? hff
      rw [List.mem_map] at h5
      obtain ⟨e, h6, rfl⟩ := h5
      exact hlb e h6)
    clear hx hlk hff ht hak
    have q0 := box_cellsR w3 [.string (bstr nm), .slice B f.b.length d, .int .i64 f.safe] 82 0 _ rfl
    have q1 := box_cellsR w3 [.string (bstr nm), .slice B f.b.length d, .int .i64 f.safe] 82 1 _ rfl
    have q2 := box_cellsR w3 [.string (bstr nm), .slice B f.b.length d, .int .i64 f.safe] 82 2 _ rfl
    have qb := below_alloc1 w3 (.cells #[.string (bstr nm), .slice B f.b.length d, .int .i64 f.safe] 82)
    have qo := new_own w3 [.string (bstr nm), .slice B f.b.length d, .int .i64 f.safe] 82 3 rfl (by unfold maxLen; omega)
    go_upto_region 2 with fail
    obtain ⟨w4, hw4⟩ : ∃ w4, w4 = w3.alloc (.cells #[.string (bstr nm), .slice B f.b.length d, .int .i64 f.safe] 82) := ⟨_, rfl⟩
    have hTw4 : (w3.alloc (.cells [.string (bstr nm), .slice B f.b.length d, .int .i64 f.safe].toArray 82)) = w4 := hw4.symm
    rw [hTw4] at q0 q1 q2 qo
    rw [← hw4] at qb ⊢
    clear hTw4 hw4
    have b24 := b3.trans (qb.mono b3.size)
    have B4 := Lib.hid (HB.out.trans (b24.mono HB.out.size))
    have OR4 := Lib.hid (Own.below OR.out b24)
    have SB4 := Lib.hid (sB.below qb)
    have LB4 := Lib.hid (show bytesV f.b ≠ [] → ∀ a, B = some a → a.block < w4.heap.size ∧ G a.block from fun hne a ha => ⟨Nat.lt_of_lt_of_le (lB hne a ha).1 qb.size, (lB hne a ha).2⟩)
    have QO4 := Lib.hid qo
    have hq3 : w.heap.size + 2 ≤ w3.heap.size := by have := b3.size; have := HB.out.size; have := (own_ltR OR.out _ rfl).2; simp only at *; omega
    have k0 := cellB b24 K0.out
    have k1 := cellB b24 K1.out
    have k2 := cellB b24 K2.out
    have k3 := cellB b24 K3.out
    obtain ⟨fbk, hfb⟩ : ∃ fbk, fbk = w3.heap.size := ⟨_, rfl⟩
    rw [← hfb] at q0 q1 q2 QO4 hq3 ⊢
    clear b3 qb qo b24 sB lB hfb
    by_cases N0 : N < 0
    · have HE := Lib.hid (HE.out.trans (if_pos (.inl N0)))
      clear q0 q2
      have f0 := World.ownsRow.frozenAt OR4.out 0
      have f1 := World.ownsRow.frozenAt OR4.out 1
      have f2 := World.ownsRow.frozenAt OR4.out 2
      have f3 := World.ownsRow.frozenAt OR4.out 3
      have m0 := World.ownsRow.cellAt OR4.out 0 (by omega)
      have m1 := World.ownsRow.cellAt OR4.out 1 (by omega)
      have m2 := World.ownsRow.cellAt OR4.out 2 (by omega)
      have m3 := World.ownsRow.cellAt OR4.out 3 (by omega)
      simp only [List.getElem?_cons_zero, List.getElem?_cons_succ] at m0 m1 m2 m3
      have Hst := Lib.hid (stored4R OR4.out (.int .i64 room) (.slice A n c) (.int .i64 fuse) (.bool false))
      go_wp2_with fail
      refine bodyPost_ret (results_cell1R rfl _ _ _ ⟨w.heap.size + 1, 0, none⟩ rfl _ (load_own2D Hst.out.1)) rfl ?_
      rw [HE.out]
      exact ⟨A, n, c, es, rfl, R2.kept (held_of_own OR4.out) (HS0.out.below B4.out) Hst.out.2, rfl, wrote2 B4.out Hst.out.2 (by omega)⟩
    by_cases N1 : (f.b.length : Int) < N
    · have HE := Lib.hid (HE.out.trans (if_pos (.inr N1)))
      clear q0 q2
      have f0 := World.ownsRow.frozenAt OR4.out 0
      have f1 := World.ownsRow.frozenAt OR4.out 1
      have f2 := World.ownsRow.frozenAt OR4.out 2
      have f3 := World.ownsRow.frozenAt OR4.out 3
      have m0 := World.ownsRow.cellAt OR4.out 0 (by omega)
      have m1 := World.ownsRow.cellAt OR4.out 1 (by omega)
      have m2 := World.ownsRow.cellAt OR4.out 2 (by omega)
      have m3 := World.ownsRow.cellAt OR4.out 3 (by omega)
      simp only [List.getElem?_cons_zero, List.getElem?_cons_succ] at m0 m1 m2 m3
      have Hst := Lib.hid (stored4R OR4.out (.int .i64 room) (.slice A n c) (.int .i64 fuse) (.bool false))
      go_wp2_with fail
      refine bodyPost_ret (results_cell1R rfl _ _ _ ⟨w.heap.size + 1, 0, none⟩ rfl _ (load_own2D Hst.out.1)) rfl ?_
      rw [HE.out]
      exact ⟨A, n, c, es, rfl, R2.kept (held_of_own OR4.out) (HS0.out.below B4.out) Hst.out.2, rfl, wrote2 B4.out Hst.out.2 (by omega)⟩
    have HE := Lib.hid (HE.out.trans (if_neg (fun h => h.elim N0 N1)))
    obtain ⟨k, rfl⟩ := Int.eq_ofNat_of_zero_le (show 0 ≤ N by omega)
    have HE := Lib.hid (show cutD ⟨room, fuse, false, es.map FE.f⟩ nm (k : Int) = deedD ⟨room, fuse, false, es.map FE.f⟩ (putF (es.map FE.f) ⟨nm, f.b.take k ++ [], k⟩ nm) from HE.out)
    have HK := Lib.hid (show k ≤ f.b.length by omega)
    have hcb := r2burns_any (w := w4) (room := room) (dark := false) (A := A) (n := n) (c := c) hf
    go_wp2_with fail
    refine hcb.mono ?_; rintro x w5 ⟨rfl, b5⟩
    have B5 := Lib.hid (B4.out.trans (b5.mono B4.out.size))
    have OR5 := Lib.hid (Own.below OR4.out b5)
    have QO5 := Lib.hid (Own.below QO4.out b5)
    clear hcb q0 q1 q2 k0 k1 k2 k3
    by_cases hz : fuse = 0
    · subst hz
      have HV := Lib.hid (show burnI 0 false = (-1, true, 15) by unfold burnI; rw [if_neg (by omega), if_pos rfl])
      rw [HV.out]
      simp only
      have q0 := box_cellsR w5 [.int .i64 room, .slice A n c, .int .i64 (-1), .bool true] 30 0 _ rfl
      have q1 := box_cellsR w5 [.int .i64 room, .slice A n c, .int .i64 (-1), .bool true] 30 1 _ rfl
      have q2 := box_cellsR w5 [.int .i64 room, .slice A n c, .int .i64 (-1), .bool true] 30 2 _ rfl
      have q3 := box_cellsR w5 [.int .i64 room, .slice A n c, .int .i64 (-1), .bool true] 30 3 _ rfl
      have qb := below_alloc1 w5 (.cells #[.int .i64 room, .slice A n c, .int .i64 (-1), .bool true] 30)
      have qo := new_own w5 [.int .i64 room, .slice A n c, .int .i64 (-1), .bool true] 30 4 rfl (by unfold maxLen; omega)
      go_upto_region 7 with fail
      obtain ⟨w6, hw6⟩ : ∃ w6, w6 = w5.alloc (.cells #[.int .i64 room, .slice A n c, .int .i64 (-1), .bool true] 30) := ⟨_, rfl⟩
      have hTw6 : (w5.alloc (.cells [.int .i64 room, .slice A n c, .int .i64 (-1), .bool true].toArray 30)) = w6 := hw6.symm
      rw [hTw6] at q0 q1 q2 q3 qo
      rw [← hw6] at qb ⊢
      clear hTw6 hw6
      have B6 := Lib.hid (B5.out.trans (qb.mono B5.out.size))
      have OR6 := Lib.hid (Own.below OR5.out qb)
      clear qb qo
      have f0 := World.ownsRow.frozenAt OR6.out 0
      have f1 := World.ownsRow.frozenAt OR6.out 1
      have f2 := World.ownsRow.frozenAt OR6.out 2
      have f3 := World.ownsRow.frozenAt OR6.out 3
      have m0 := World.ownsRow.cellAt OR6.out 0 (by omega)
      have m1 := World.ownsRow.cellAt OR6.out 1 (by omega)
      have m2 := World.ownsRow.cellAt OR6.out 2 (by omega)
      have m3 := World.ownsRow.cellAt OR6.out 3 (by omega)
      simp only [List.getElem?_cons_zero, List.getElem?_cons_succ] at m0 m1 m2 m3
      have Hst := Lib.hid (stored4R OR6.out (.int .i64 room) (.slice A n c) (.int .i64 (-1)) (.bool true))
      go_wp2_with fail
      refine bodyPost_ret (results_cell1R rfl _ _ _ ⟨w.heap.size + 1, 0, none⟩ rfl _ (load_own2D Hst.out.1)) rfl ?_
      rw [HE.out]
      exact ⟨A, n, c, es, rfl, R2.kept (held_of_own OR6.out) (HS0.out.below B6.out) Hst.out.2, rfl, wrote2 B6.out Hst.out.2 (by omega)⟩
    · obtain ⟨fu, hfu⟩ : ∃ fu, fu = (if 0 < fuse then fuse - 1 else fuse) := ⟨_, rfl⟩
      have HV := Lib.hid (show burnI fuse false = (fu, false, 0) by
        unfold burnI
        by_cases h5 : fuse < 0
        · rw [if_pos h5, hfu, if_neg (by omega)]
        · rw [if_neg h5, if_neg hz, hfu, if_pos (by omega)])
      have HD := Lib.hid (show ∀ fs', deedD ⟨room, fuse, false, es.map FE.f⟩ fs' = (0, ⟨room, fu, false, fs'⟩) from fun fs' => by unfold deedD; rw [if_neg hz, hfu])
      rw [HV.out]
      simp only
      clear hfu hz
      have q0 := box_cellsR w5 [.int .i64 room, .slice A n c, .int .i64 fu, .bool false] 30 0 _ rfl
      have q1 := box_cellsR w5 [.int .i64 room, .slice A n c, .int .i64 fu, .bool false] 30 1 _ rfl
      have q2 := box_cellsR w5 [.int .i64 room, .slice A n c, .int .i64 fu, .bool false] 30 2 _ rfl
      have q3 := box_cellsR w5 [.int .i64 room, .slice A n c, .int .i64 fu, .bool false] 30 3 _ rfl
      have qb := below_alloc1 w5 (.cells #[.int .i64 room, .slice A n c, .int .i64 fu, .bool false] 30)
      have qo := new_own w5 [.int .i64 room, .slice A n c, .int .i64 fu, .bool false] 30 4 rfl (by unfold maxLen; omega)
      go_upto_region 7 with fail
      obtain ⟨w6, hw6⟩ : ∃ w6, w6 = w5.alloc (.cells #[.int .i64 room, .slice A n c, .int .i64 fu, .bool false] 30) := ⟨_, rfl⟩
      have hTw6 : (w5.alloc (.cells [.int .i64 room, .slice A n c, .int .i64 fu, .bool false].toArray 30)) = w6 := hw6.symm
      rw [hTw6] at q0 q1 q2 q3 qo
      rw [← hw6] at qb ⊢
      clear hTw6 hw6
      have B6 := Lib.hid (B5.out.trans (qb.mono B5.out.size))
      have OR6 := Lib.hid (Own.below OR5.out qb)
      have QO6 := Lib.hid (Own.below QO5.out qb)
      have hbb := b5.trans (qb.mono b5.size)
      have SB6 := Lib.hid (SB4.out.below hbb)
      have LB6 := Lib.hid (show bytesV f.b ≠ [] → ∀ a, B = some a → a.block < w6.heap.size ∧ G a.block from fun hne a ha => ⟨Nat.lt_of_lt_of_le (LB4.out hne a ha).1 hbb.size, (LB4.out hne a ha).2⟩)
      obtain ⟨L, hL⟩ : ∃ L, f.b.take k ++ [] = L := ⟨_, rfl⟩
      rw [hL] at HE
      have HL := Lib.hid hL
      clear hL
      have HNC := Lib.hid (show (0 : Int) ≤ (k : Int) ∧ (k : Int) ≤ (d : Int) by have := SB6.out.le; have := HK.out; omega)
      have X1 := Lib.hid (World.ownsRow.cellAt QO6.out 1 (by omega))
      simp only [List.getElem?_cons_zero, List.getElem?_cons_succ] at X1
      have Z0 := Lib.hid q0
      have Z1 := Lib.hid q1
      have Z2 := Lib.hid q2
      have Z3 := Lib.hid q3
      have SB7 := SB6
      have B7 := B6
      have hk2 : k ≤ 400000 := by have := HK.out; have := HLen.out; omega
      clear b5 qb qo hbb q0 q1 q2 q3 N0 N1
      go_upto_region 9 with fail
      --@region 110 9 r2c9.spec
      refine wp_region_tail 11 (by kernel_rfl) (by kernel_rfl) (by kernel_rfl) ?_
      apply RunT.pure
      · intro vs w hb hd; clear hd; have hx0 := cellB hb Z0.out; have hx1 := cellB hb Z1.out; have hx2 := cellB hb Z2.out; have hx3 := cellB hb Z3.out; simp only [List.take, putL, Act.put, List.setIfInBounds_toArray, List.set_cons_zero, List.set_cons_succ]; unfold StepOK; go_simp; exact ⟨Below.refl _ _, isV_mk _ _⟩
      apply RunT.pure
      · intro vs w hb hd; clear hd; simp only [List.take, putL, Act.put, List.setIfInBounds_toArray, List.set_cons_zero, List.set_cons_succ]; unfold StepOK; go_simp; exact ⟨Below.refl _ _, isV_mk _ _⟩
      apply RunT.pure
      · intro vs w hb hd; clear hd; simp only [List.take, putL, Act.put, List.setIfInBounds_toArray, List.set_cons_zero, List.set_cons_succ]; unfold StepOK; go_simp; exact ⟨Below.refl _ _, isV_mk _ _⟩
      apply RunT.pure
      · intro vs w hb hd; have d2 : isV _ (vs 2) w := hd 2 (by decide) (by kernel_rfl); unfold isV at d2; clear hd; have hx1 := cellB hb X1.out; simp only [List.take, putL, Act.put, List.setIfInBounds_toArray, List.set_cons_zero, List.set_cons_succ]; unfold StepOK; go_simp; exact ⟨Below.refl _ _, isV_mk _ _⟩
      apply RunT.pure
      · intro vs w hb hd; clear hd; simp only [List.take, putL, Act.put, List.setIfInBounds_toArray, List.set_cons_zero, List.set_cons_succ]; unfold StepOK; go_simp; exact ⟨Below.refl _ _, isV_mk _ _⟩
      apply RunT.pure
      · intro vs w hb hd; have d3 : isV _ (vs 3) w := hd 3 (by decide) (by kernel_rfl); unfold isV at d3; have d4 : isV _ (vs 4) w := hd 4 (by decide) (by kernel_rfl); unfold isV at d4; clear hd; have hx1 := HNC.out; simp only [List.take, putL, Act.put, List.setIfInBounds_toArray, List.set_cons_zero, List.set_cons_succ]; unfold StepOK; go_simp; exact ⟨Below.refl _ _, isV_mk _ _⟩
      refine RunT.such (isTx G L) (isTx_st _ _) ?_ ?_
      · intro vs w hb hd; have d5 : isV _ (vs 5) w := hd 5 (by decide) (by kernel_rfl); unfold isV at d5; clear hd; have hx2 := SB7.out.below hb; simp only [List.take, putL, Act.put, List.setIfInBounds_toArray, List.set_cons_zero, List.set_cons_succ]; unfold StepOK; go_simp; exact ⟨Below.refl _ _, (text_such (G := G) (l := f.b.take k) (b := []) (fun q hq => HG.out q (by have := B7.out.size; have := hb.size; omega)) (sl_pre hx2 HK.out) (Sl.nil _ _) (by have := HK.out; have := HLen.out; omega) (by omega)).mono (fun e w' ⟨v, h1, h2, h3⟩ => ⟨v, h1, h2, by rw [← HL.out]; exact h3⟩)⟩
      apply RunT.pure
      · intro vs w hb hd; clear hd; simp only [List.take, putL, Act.put, List.setIfInBounds_toArray, List.set_cons_zero, List.set_cons_succ]; unfold StepOK; go_simp; exact ⟨Below.refl _ _, isV_mk _ _⟩
      refine RunT.such (isFl2 G nm L (k : Int)) (isFl2_st _ _ _ _) ?_ ?_
      · intro vs w hb hd; have d1 : isV _ (vs 1) w := hd 1 (by decide) (by kernel_rfl); unfold isV at d1; have d6 := hd 6 (by decide) (by kernel_rfl); simp only [TR, Nat.reduceAdd, Nat.reduceSub, List.getD_cons_zero, List.getD_cons_succ] at d6; have d7 : isV _ (vs 7) w := hd 7 (by decide) (by kernel_rfl); unfold isV at d7; clear hd; obtain ⟨A6, c6, e6, s6, l6⟩ := d6; simp only [List.take, putL, Act.put, List.setIfInBounds_toArray, List.set_cons_zero, List.set_cons_succ]; unfold StepOK; go_simp; exact ⟨Below.refl _ _, A6, c6, rfl, s6, l6⟩
      apply RunT.pure
      · intro vs w hb hd; clear hd; simp only [List.take, putL, Act.put, List.setIfInBounds_toArray, List.set_cons_zero, List.set_cons_succ]; unfold StepOK; go_simp; exact ⟨Below.refl _ _, isV_mk _ _⟩
      refine RunT.such (isPut G room fu (putF (es.map FE.f) ⟨nm, L, k⟩ nm)) (isPut_st _ _ _ _) ?_ ?_
      · intro vs w hb hd; have d0 : isV _ (vs 0) w := hd 0 (by decide) (by kernel_rfl); unfold isV at d0; have d6 := hd 6 (by decide) (by kernel_rfl); simp only [TR, Nat.reduceAdd, Nat.reduceSub, List.getD_cons_zero, List.getD_cons_succ] at d6; have d8 := hd 8 (by decide) (by kernel_rfl); simp only [TR, Nat.reduceAdd, Nat.reduceSub, List.getD_cons_zero, List.getD_cons_succ] at d8; have d9 : isV _ (vs 9) w := hd 9 (by decide) (by kernel_rfl); unfold isV at d9; clear hd; obtain ⟨A6, c6, e8, s6, l6⟩ := d8; simp only [List.take, putL, Act.put, List.setIfInBounds_toArray, List.set_cons_zero, List.set_cons_succ]; unfold StepOK; go_simp; exact ⟨Below.refl _ _, put_such (fun q hq => HG.out q (by have := B7.out.size; have := hb.size; omega)) ((HS0.out.below B7.out).below hb) hn nm nm A6 L c6 k s6 (fun hne a ha => l6 a ha)⟩
      intro vs w1 hb hd
      have e0 : isV _ (vs 0) w1 := hd 0 (by decide)
      have e1 : isV _ (vs 1) w1 := hd 1 (by decide)
      have e2 : isV _ (vs 2) w1 := hd 2 (by decide)
      have e3 : isV _ (vs 3) w1 := hd 3 (by decide)
      have e4 : isV _ (vs 4) w1 := hd 4 (by decide)
      have e5 : isV _ (vs 5) w1 := hd 5 (by decide)
      have e6 := hd 6 (by decide); simp only [TR, Nat.reduceAdd, Nat.reduceSub, List.getD_cons_zero, List.getD_cons_succ] at e6
      have e7 : isV _ (vs 7) w1 := hd 7 (by decide)
      have e8 := hd 8 (by decide); simp only [TR, Nat.reduceAdd, Nat.reduceSub, List.getD_cons_zero, List.getD_cons_succ] at e8
      have e9 : isV _ (vs 9) w1 := hd 9 (by decide)
      have e10 := hd 10 (by decide); simp only [TR, Nat.reduceAdd, Nat.reduceSub, List.getD_cons_zero, List.getD_cons_succ] at e10
      clear hd
      unfold isV at e0 e1 e2 e3 e4 e5 e7 e9
      simp only [List.drop_succ_cons, List.drop_zero, List.take_succ_cons, List.take_zero]
      simp only [putL, Act.put, List.setIfInBounds_toArray, List.set_cons_zero, List.set_cons_succ, e0, e1, e2, e3, e4, e5, e7, e9]
      clear e0 e1 e2 e3 e4 e5 e7 e9
      --@end
      obtain ⟨A8, n8, c8, es8, e10, r8, hm8⟩ := e10
      simp only [Nat.reduceAdd, e10]
      have B8 := Lib.hid (B7.out.trans (hb.mono B7.out.size))
      have OR8 := Lib.hid (Own.below OR6.out hb)
      have R8 := Lib.hid r8
      have HM8 := Lib.hid hm8
      clear e10 hb r8 hm8
      have f0 := World.ownsRow.frozenAt OR8.out 0
      have f1 := World.ownsRow.frozenAt OR8.out 1
      have f2 := World.ownsRow.frozenAt OR8.out 2
      have f3 := World.ownsRow.frozenAt OR8.out 3
      have m0 := World.ownsRow.cellAt OR8.out 0 (by omega)
      have m1 := World.ownsRow.cellAt OR8.out 1 (by omega)
      have m2 := World.ownsRow.cellAt OR8.out 2 (by omega)
      have m3 := World.ownsRow.cellAt OR8.out 3 (by omega)
      simp only [List.getElem?_cons_zero, List.getElem?_cons_succ] at m0 m1 m2 m3
      have Hst := Lib.hid (stored4R OR8.out (.int .i64 room) (.slice A8 n8 c8) (.int .i64 fu) (.bool false))
      go_wp2_with fail
      refine bodyPost_ret (results_cell1R rfl _ _ _ ⟨w.heap.size + 1, 0, none⟩ rfl _ (load_own2D Hst.out.1)) rfl ?_
      rw [HE.out, HD.out]
      exact ⟨A8, n8, c8, es8, rfl, R2.kept (held_of_own OR8.out) R8.out Hst.out.2, HM8.out, wrote2 B8.out Hst.out.2 (by omega)⟩
  · obtain ⟨B, d, rfl, b3⟩ := asked_no hx hak h0
    have HE := Lib.hid (show cutD ⟨room, fuse, dark, es.map FE.f⟩ nm N = (ak, ⟨room, fuse, dark, es.map FE.f⟩) by
      unfold cutD ofD
      unfold askF at hak
      cases dark with
      | true => rw [if_pos rfl] at hak; rw [if_pos rfl, hak]
      | false =>
        rw [if_neg (by simp)] at hak
        rw [if_neg (by simp)]
        cases ht : thereF (es.map FE.f) nm with
        | true => rw [if_pos ht] at hak; exact absurd hak.symm h0
        | false =>
          rw [if_neg (by rw [ht]; simp)] at hak
          simp only [ht, hak])
    have q0 := box_cellsR w3 [.string ⟨#[]⟩, .slice B 0 d, .int .i64 0] 82 0 _ rfl
    have q1 := box_cellsR w3 [.string ⟨#[]⟩, .slice B 0 d, .int .i64 0] 82 1 _ rfl
    have q2 := box_cellsR w3 [.string ⟨#[]⟩, .slice B 0 d, .int .i64 0] 82 2 _ rfl
    have qb := below_alloc1 w3 (.cells #[.string ⟨#[]⟩, .slice B 0 d, .int .i64 0] 82)
    have qo := new_own w3 [.string ⟨#[]⟩, .slice B 0 d, .int .i64 0] 82 3 rfl (by unfold maxLen; omega)
    go_upto_region 2 with fail
    obtain ⟨w4, hw4⟩ : ∃ w4, w4 = w3.alloc (.cells #[.string ⟨#[]⟩, .slice B 0 d, .int .i64 0] 82) := ⟨_, rfl⟩
    have hTw4 : (w3.alloc (.cells [.string ⟨#[]⟩, .slice B 0 d, .int .i64 0].toArray 82)) = w4 := hw4.symm
    rw [hTw4] at q0 q1 q2 qo
    rw [← hw4] at qb ⊢
    clear hTw4 hw4
    have b24 := b3.trans (qb.mono b3.size)
    have B4 := Lib.hid (HB.out.trans (b24.mono HB.out.size))
    have OR4 := Lib.hid (Own.below OR.out b24)
    have k0 := cellB b24 K0.out
    have k1 := cellB b24 K1.out
    have k2 := cellB b24 K2.out
    have k3 := cellB b24 K3.out
    have h02 : (ak == 0) = false := by simpa using h0
    clear b3 qb qo b24 hx
    have f0 := World.ownsRow.frozenAt OR4.out 0
    have f1 := World.ownsRow.frozenAt OR4.out 1
    have f2 := World.ownsRow.frozenAt OR4.out 2
    have f3 := World.ownsRow.frozenAt OR4.out 3
    have m0 := World.ownsRow.cellAt OR4.out 0 (by omega)
    have m1 := World.ownsRow.cellAt OR4.out 1 (by omega)
    have m2 := World.ownsRow.cellAt OR4.out 2 (by omega)
    have m3 := World.ownsRow.cellAt OR4.out 3 (by omega)
    simp only [List.getElem?_cons_zero, List.getElem?_cons_succ] at m0 m1 m2 m3
    have Hst := Lib.hid (stored4R OR4.out (.int .i64 room) (.slice A n c) (.int .i64 fuse) (.bool dark))
    go_wp2_with fail
    refine bodyPost_ret (results_cell1R rfl _ _ _ ⟨w.heap.size + 1, 0, none⟩ rfl _ (load_own2D Hst.out.1)) rfl ?_
    rw [HE.out]
    exact ⟨A, n, c, es, rfl, R2.kept (held_of_own OR4.out) (HS0.out.below B4.out) Hst.out.2, rfl, wrote2 B4.out Hst.out.2 (by omega)⟩
end
end Go.Proofs.YtemegkapmgcffaaGreat
