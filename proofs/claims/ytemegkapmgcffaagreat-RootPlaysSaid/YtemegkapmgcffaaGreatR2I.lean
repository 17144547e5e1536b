import Derived.Test.YtemegkapmgcffaaGreatR2H
/- The document's disk, by value: Append (printed by wip/gen/gr2i.py). -/
namespace Go.Proofs.YtemegkapmgcffaaGreat
open Go.RowKit
set_option linter.unusedSimpArgs false
set_option linter.unusedVariables false

theorem look_not {fs : List Fl} {nm : Nm} (h : thereF fs nm = false) : lookF fs nm = ⟨[], [], 0⟩ := by
  unfold lookF
  rw [h]
theorem asked_gen {G : Nat → Prop} {w w' : World} {fs : List Fl} {dark : Bool} {nm : Nm} {x : Ending} {ak : Int} {fb : List UInt8} {fz : Nat} (h : AskedP G w fs dark nm x w') (he : askF fs dark nm = ak) (h0 : ak ≠ 15) (hb : fb = (lookF fs nm).b) (hz : fz = (lookF fs nm).safe) : ∃ B d S, x = .returned (.tuple #[.agg #[.string S, .slice B fb.length d, .int .i64 (fz : Int)], .int .i64 ak]) ∧ Sl w' 1 B fb.length d (bytesV fb) ∧ (bytesV fb ≠ [] → ∀ a, B = some a → a.block < w'.heap.size ∧ G a.block) ∧ Below w.heap.size w w' := by
  subst hb hz
  by_cases ha : ak = 0
  · subst ha
    obtain ⟨B, d, h1, h2, h3, h4⟩ := asked_yes h he rfl
    exact ⟨B, d, _, h1, h2, h3, h4⟩
  · have ht : thereF fs nm = false := by
      cases ht : thereF fs nm with
      | false => rfl
      | true =>
        unfold askF at he
        cases dark with
        | true => rw [if_pos rfl] at he; exact absurd he.symm h0
        | false => rw [if_neg (by simp), if_pos ht] at he; exact absurd he.symm ha
    rw [look_not ht]
    obtain ⟨B, d, h1, h2, h3, h4⟩ := h
    rw [he] at h1
    rw [he] at h2 h3
    simp only [if_neg ha] at h1 h2 h3
    exact ⟨B, d, _, h1, h2, h3, h4⟩
theorem appF_put {fs : List Fl} (hs : SrtF fs) (nm : Nm) (tb : List UInt8) : appF fs nm tb = putF fs ⟨nm, (lookF fs nm).b ++ tb, (lookF fs nm).safe⟩ nm := by
  cases ht : thereF fs nm with
  | true =>
    obtain ⟨f, hff, hfn⟩ := there_true ht
    rw [putF_set hs ht _ rfl]
    unfold appF lookF
    rw [ht, hff]
    simp only [hfn]
  | false =>
    rw [putF_ins hs ht _ rfl, look_not ht]
    unfold appF
    rw [ht]
    rfl
section
variable {w : World} {room fuse : Int} {dark : Bool} {A : Option Addr} {n c : Nat} {es : List FE}
set_option maxRecDepth 100000 in
set_option maxHeartbeats 16000000 in
theorem r2Append_any {G : Nat → Prop} (hG : ∀ q, w.heap.size ≤ q → G q) (hs : R2 G w A n c es) (hso : SrtF (es.map FE.f)) (hn : n ≤ 1000) (hf : -9223372036854775808 ≤ fuse ∧ fuse ≤ 9223372036854775807) (nm : Nm) (hnl : nm.length ≤ maxLen) (TA : Option Addr) (tb : List UInt8) (tc : Nat) (htb : Sl w 1 TA tb.length tc (bytesV tb)) (htl : tb.length ≤ 400000) (hlb : ∀ e, e ∈ es → e.f.b.length ≤ 300000) (hu : usedF (es.map FE.f) ≤ 16777216) (hrm : 0 ≤ room ∧ room ≤ 16777216) (h200 : es.length ≤ 200) :
    Calls Tryz.prog 9 #[.agg #[.int .i64 room, .slice A n c, .int .i64 fuse, .bool dark], .string (bstr nm), .slice TA tb.length tc] w (R2P G w (appendD ⟨room, fuse, dark, es.map FE.f⟩ nm tb)) := by
  have hb1 := below_alloc1 w (.cells #[.int .i64 room, .slice A n c, .int .i64 fuse, .bool dark] 30)
  have k0 := box_cellsR w [.int .i64 room, .slice A n c, .int .i64 fuse, .bool dark] 30 0 _ rfl
  have k1 := box_cellsR w [.int .i64 room, .slice A n c, .int .i64 fuse, .bool dark] 30 1 _ rfl
  have k2 := box_cellsR w [.int .i64 room, .slice A n c, .int .i64 fuse, .bool dark] 30 2 _ rfl
  have k3 := box_cellsR w [.int .i64 room, .slice A n c, .int .i64 fuse, .bool dark] 30 3 _ rfl
  have ob := new_own w [.int .i64 room, .slice A n c, .int .i64 fuse, .bool dark] 30 4 rfl (by unfold maxLen; omega)
  obtain ⟨w1, hw1⟩ : ∃ w1, w1 = w.alloc (.cells #[.int .i64 room, .slice A n c, .int .i64 fuse, .bool dark] 30) := ⟨_, rfl⟩
  have hT1 : (w.alloc (.cells [.int .i64 room, .slice A n c, .int .i64 fuse, .bool dark].toArray 30)) = w1 := hw1.symm
  rw [hT1] at k0 k1 k2 k3 ob
  rw [← hw1] at hb1
  have hz1 : w1.heap.size = w.heap.size + 1 := by rw [hw1]; simp
  have hb2 := below_alloc1 w1 (.cells #[.int .i64 0, .slice none 0 0, .int .i64 0, .bool false] 30)
  have orr := new_own w1 [.int .i64 0, .slice none 0 0, .int .i64 0, .bool false] 30 4 rfl (by unfold maxLen; omega)
  obtain ⟨w2, hw2⟩ : ∃ w2, w2 = w1.alloc (.cells #[.int .i64 0, .slice none 0 0, .int .i64 0, .bool false] 30) := ⟨_, rfl⟩
  have hT2 : (w1.alloc (.cells [.int .i64 0, .slice none 0 0, .int .i64 0, .bool false].toArray 30)) = w2 := hw2.symm
  rw [hT2, hz1] at orr
  rw [← hw2] at hb2
  have eW : (w.alloc (.cells #[.int .i64 room, .slice A n c, .int .i64 fuse, .bool dark] 30)).alloc (.cells #[.int .i64 0, .slice none 0 0, .int .i64 0, .bool false] 30) = w2 := by rw [hw2, hw1]
  have k0 := cellB hb2 k0
  have k1 := cellB hb2 k1
  have k2 := cellB hb2 k2
  have k3 := cellB hb2 k3
  have OB := Lib.hid (Own.below ob hb2)
  have OR := Lib.hid (Own.lower orr (show w.heap.size ≤ w.heap.size + 1 by omega))
  have HB := Lib.hid (hb1.trans (hb2.mono hb1.size))
  clear hb1 hb2 hw1 hw2 hT1 hT2 hz1 ob orr
  have hln := slFE_len hs.sl
  have HS0 := Lib.hid hs
  have HS := Lib.hid (hs.below HB.out)
  have HSO := Lib.hid hso
  have HG := Lib.hid hG
  have K0 := Lib.hid k0
  have K1 := Lib.hid k1
  have K2 := Lib.hid k2
  have K3 := Lib.hid k3
  have hc := r2asked_any (room := room) (fuse := fuse) (dark := dark) HS.out HSO.out (by omega) nm
  clear hs hso hG
  go_enter Tryz.func9, Tryz.ntmps9
  go_upto_region 1 with fail
  clear eW
  go_wp2_with fail
  refine hc.mono ?_; intro x w3 hx
  clear hc k0 k1 k2 k3
  obtain ⟨ak, hak⟩ : ∃ ak, askF (es.map FE.f) dark nm = ak := ⟨_, rfl⟩
  have HTB := Lib.hid htb
  have HU := Lib.hid hu
  clear htb hu
  by_cases h15 : ak = 15
  · have h0 : ak ≠ 0 := by omega
    have hdk : dark = true := by
      cases dark with
      | true => rfl
      | false =>
        unfold askF at hak
        rw [if_neg (by simp)] at hak
        split at hak <;> omega
    subst hdk
    obtain ⟨B, d, rfl, b3⟩ := asked_no hx hak h0
    subst h15
    have HE := Lib.hid (show appendD ⟨room, fuse, true, es.map FE.f⟩ nm tb = (15, ⟨room, fuse, true, es.map FE.f⟩) by unfold appendD; rw [if_pos rfl])
    have q0 := box_cellsR w3 [.string ⟨#[]⟩, .slice B 0 d, .int .i64 0] 82 0 _ rfl
    have q1 := box_cellsR w3 [.string ⟨#[]⟩, .slice B 0 d, .int .i64 0] 82 1 _ rfl
    have q2 := box_cellsR w3 [.string ⟨#[]⟩, .slice B 0 d, .int .i64 0] 82 2 _ rfl
    have qb := below_alloc1 w3 (.cells #[.string ⟨#[]⟩, .slice B 0 d, .int .i64 0] 82)
    have qo := new_own w3 [.string ⟨#[]⟩, .slice B 0 d, .int .i64 0] 82 3 rfl (by unfold maxLen; omega)
    go_upto_region 2 with fail
    obtain ⟨w4, hw4⟩ : ∃ w4, w4 = w3.alloc (.cells #[.string ⟨#[]⟩, .slice B 0 d, .int .i64 0] 82) := ⟨_, rfl⟩
    have hTw4 : (w3.alloc (.cells [.string ⟨#[]⟩, .slice B 0 d, .int .i64 0].toArray 82)) = w4 := hw4.symm
    rw [hTw4] at q0 q1 q2 qo
    rw [← hw4] at qb ⊢
    clear hTw4 hw4
    have b24 := b3.trans (qb.mono b3.size)
    have B4 := Lib.hid (HB.out.trans (b24.mono HB.out.size))
    have OR4 := Lib.hid (Own.below OR.out b24)
    have k0 := cellB b24 K0.out
    have k1 := cellB b24 K1.out
    have k2 := cellB b24 K2.out
    have k3 := cellB b24 K3.out
    clear b3 qb qo b24 hx hak
    have f0 := World.ownsRow.frozenAt OR4.out 0
    have f1 := World.ownsRow.frozenAt OR4.out 1
    have f2 := World.ownsRow.frozenAt OR4.out 2
    have f3 := World.ownsRow.frozenAt OR4.out 3
    have m0 := World.ownsRow.cellAt OR4.out 0 (by omega)
    have m1 := World.ownsRow.cellAt OR4.out 1 (by omega)
    have m2 := World.ownsRow.cellAt OR4.out 2 (by omega)
    have m3 := World.ownsRow.cellAt OR4.out 3 (by omega)
    simp only [List.getElem?_cons_zero, List.getElem?_cons_succ] at m0 m1 m2 m3
    have Hst := Lib.hid (stored4R OR4.out (.int .i64 room) (.slice A n c) (.int .i64 fuse) (.bool true))
    go_wp2_with fail
    refine bodyPost_ret (results_cell1R rfl _ _ _ ⟨w.heap.size + 1, 0, none⟩ rfl _ (load_own2D Hst.out.1)) rfl ?_
    rw [HE.out]
    exact ⟨A, n, c, es, rfl, R2.kept (held_of_own OR4.out) (HS0.out.below B4.out) Hst.out.2, rfl, wrote2 B4.out Hst.out.2 (by omega)⟩
  · have hdk : dark = false := by
      cases dark with
      | false => rfl
      | true => unfold askF at hak; rw [if_pos rfl] at hak; exact absurd hak.symm h15
    subst hdk
    obtain ⟨fb, hfb⟩ : ∃ fb, fb = (lookF (es.map FE.f) nm).b := ⟨_, rfl⟩
    obtain ⟨fz, hfz⟩ : ∃ fz, fz = (lookF (es.map FE.f) nm).safe := ⟨_, rfl⟩
    obtain ⟨B, d, FS, rfl, sB, lB, b3⟩ := asked_gen hx hak h15 hfb hfz
    have HLen := Lib.hid (show fb.length ≤ 300000 by
      rw [hfb]
      unfold lookF
      split
      · rename_i f _ hff
        have h5 := List.mem_of_getElem? hff
        rw [List.mem_map] at h5
        obtain ⟨e, h6, rfl⟩ := h5
        exact hlb e h6
      · simp)
    have HPut := Lib.hid (show appF (es.map FE.f) nm tb = putF (es.map FE.f) ⟨nm, fb ++ tb, fz⟩ nm by rw [appF_put HSO.out, hfb, hfz])
    have hakv : (thereF (es.map FE.f) nm = true ∧ ak = 0) ∨ (thereF (es.map FE.f) nm = false ∧ ak = 16) := by
      unfold askF at hak
      rw [if_neg (by simp)] at hak
      cases ht : thereF (es.map FE.f) nm with
      | true => rw [if_pos ht] at hak; exact .inl ⟨rfl, hak.symm⟩
      | false => rw [if_neg (by rw [ht]; simp)] at hak; exact .inr ⟨rfl, hak.symm⟩
    have HAK := Lib.hid hakv
    have h152 : (ak == 15) = false := by simpa using h15
    clear hx hak hakv hfb hfz
    have q0 := box_cellsR w3 [.string FS, .slice B fb.length d, .int .i64 (fz : Int)] 82 0 _ rfl
    have q1 := box_cellsR w3 [.string FS, .slice B fb.length d, .int .i64 (fz : Int)] 82 1 _ rfl
    have q2 := box_cellsR w3 [.string FS, .slice B fb.length d, .int .i64 (fz : Int)] 82 2 _ rfl
    have qb := below_alloc1 w3 (.cells #[.string FS, .slice B fb.length d, .int .i64 (fz : Int)] 82)
    have qo := new_own w3 [.string FS, .slice B fb.length d, .int .i64 (fz : Int)] 82 3 rfl (by unfold maxLen; omega)
    go_upto_region 2 with fail
    obtain ⟨w4, hw4⟩ : ∃ w4, w4 = w3.alloc (.cells #[.string FS, .slice B fb.length d, .int .i64 (fz : Int)] 82) := ⟨_, rfl⟩
    have hTw4 : (w3.alloc (.cells [.string FS, .slice B fb.length d, .int .i64 (fz : Int)].toArray 82)) = w4 := hw4.symm
    rw [hTw4] at q0 q1 q2 qo
    rw [← hw4] at qb ⊢
    clear hTw4 hw4
    have b24 := b3.trans (qb.mono b3.size)
    have B4 := Lib.hid (HB.out.trans (b24.mono HB.out.size))
    have OR4 := Lib.hid (Own.below OR.out b24)
    have hcr := r2Right_any nm hnl w4
    have QO4 := Lib.hid qo
    have SB4 := Lib.hid (sB.below qb)
    have hq3 : w.heap.size + 2 ≤ w3.heap.size := by have := b3.size; have := HB.out.size; have := (own_ltR OR.out _ rfl).2; simp only at *; omega
    obtain ⟨fbk, hfb⟩ : ∃ fbk, fbk = w3.heap.size := ⟨_, rfl⟩
    rw [← hfb] at q0 q1 q2 QO4 hq3 ⊢
    have K0 := Lib.hid (cellB b24 K0.out)
    have K1 := Lib.hid (cellB b24 K1.out)
    have K2 := Lib.hid (cellB b24 K2.out)
    have K3 := Lib.hid (cellB b24 K3.out)
    clear b3 qb qo b24 sB lB hfb q0 q1 q2
    cases hnm : namedF nm with
    | false =>
      rw [hnm] at hcr
      have HE := Lib.hid (show appendD ⟨room, fuse, false, es.map FE.f⟩ nm tb = (16, ⟨room, fuse, false, es.map FE.f⟩) by unfold appendD; rw [if_neg (by simp), if_pos hnm])
      clear hnm
      go_wp2_with fail
      refine hcr.mono ?_; rintro x w5 ⟨rfl, b5⟩
      have B5 := Lib.hid (B4.out.trans (b5.mono B4.out.size))
      have OR5 := Lib.hid (Own.below OR4.out b5)
      have k0 := cellB b5 K0.out
      have k1 := cellB b5 K1.out
      have k2 := cellB b5 K2.out
      have k3 := cellB b5 K3.out
      clear b5 hcr
      have f0 := World.ownsRow.frozenAt OR5.out 0
      have f1 := World.ownsRow.frozenAt OR5.out 1
      have f2 := World.ownsRow.frozenAt OR5.out 2
      have f3 := World.ownsRow.frozenAt OR5.out 3
      have m0 := World.ownsRow.cellAt OR5.out 0 (by omega)
      have m1 := World.ownsRow.cellAt OR5.out 1 (by omega)
      have m2 := World.ownsRow.cellAt OR5.out 2 (by omega)
      have m3 := World.ownsRow.cellAt OR5.out 3 (by omega)
      simp only [List.getElem?_cons_zero, List.getElem?_cons_succ] at m0 m1 m2 m3
      have Hst := Lib.hid (stored4R OR5.out (.int .i64 room) (.slice A n c) (.int .i64 fuse) (.bool false))
      go_wp2_with fail
      refine bodyPost_ret (results_cell1R rfl _ _ _ ⟨w.heap.size + 1, 0, none⟩ rfl _ (load_own2D Hst.out.1)) rfl ?_
      rw [HE.out]
      exact ⟨A, n, c, es, rfl, R2.kept (held_of_own OR5.out) (HS0.out.below B5.out) Hst.out.2, rfl, wrote2 B5.out Hst.out.2 (by omega)⟩
    | true =>
      rw [hnm] at hcr
      have HNM := Lib.hid hnm
      clear hnm
      go_wp2_with fail
      refine hcr.mono ?_; rintro x w5 ⟨rfl, b5⟩
      have B5 := Lib.hid (B4.out.trans (b5.mono B4.out.size))
      have OR5 := Lib.hid (Own.below OR4.out b5)
      have QO5 := Lib.hid (Own.below QO4.out b5)
      have SB5 := Lib.hid (SB4.out.below b5)
      have S5 := Lib.hid (HS0.out.below B5.out)
      have Y0 := Lib.hid (cellB b5 K0.out)
      have Y1 := Lib.hid (cellB b5 K1.out)
      have Y2 := Lib.hid (cellB b5 K2.out)
      have Y3 := Lib.hid (cellB b5 K3.out)
      obtain ⟨us, hus⟩ : ∃ us, us = usedF (es.map FE.f) := ⟨_, rfl⟩
      have HUS := Lib.hid hus
      have husb : us ≤ 16777216 := by rw [hus]; exact HU.out
      have HWU := Lib.hid (show IntKind.i64.wrap ((us : Int) + (tb.length : Int)) = (us : Int) + (tb.length : Int) by rw [IntKind.wrap_i64]; omega)
      clear b5 hcr K0 K1 K2 K3 hus
      by_cases g7 : room < (us : Int) + (tb.length : Int)
      · have HG7 := Lib.hid (show decide (room < (us : Int) + (tb.length : Int)) = true from decide_eq_true g7)
        have HE := Lib.hid (show appendD ⟨room, fuse, false, es.map FE.f⟩ nm tb = (5, ⟨room, fuse, false, es.map FE.f⟩) by
          unfold appendD
          rw [if_neg (by simp), if_neg (by rw [HNM.out]; simp), if_pos (.inl (by simp only; rw [← HUS.out]; exact g7))])
        go_upto_region 6 with fail
        --@region 106 6 r2a6a.spec
        refine wp_region_run (by kernel_rfl) (by kernel_rfl) ?_
        apply RunL.pure
        · intro vs w hb hd; clear hd; have hx0 := cellB hb Y0.out; have hx1 := cellB hb Y1.out; have hx2 := cellB hb Y2.out; have hx3 := cellB hb Y3.out; simp only [List.take, putL, Act.put, List.setIfInBounds_toArray, List.set_cons_zero, List.set_cons_succ]; unfold StepOK; go_simp; exact ⟨Below.refl _ _, isV_mk _ _⟩
        refine RunL.such (isV (.int .i64 (us : Int))) (isV_stable _) ?_ ?_
        · intro vs w hb hd; have d0 : isV _ (vs 0) w := hd 0 (by decide) (by kernel_rfl); unfold isV at d0; clear hd; have hx1 := S5.out.below hb; simp only [List.take, putL, Act.put, List.setIfInBounds_toArray, List.set_cons_zero, List.set_cons_succ]; unfold StepOK; go_simp; exact ⟨Below.refl _ _, such_of_bool (by rw [HUS.out]; exact r2Used_any hx1.sl (by omega) HU.out)⟩
        apply RunL.pure
        · intro vs w hb hd; clear hd; simp only [List.take, putL, Act.put, List.setIfInBounds_toArray, List.set_cons_zero, List.set_cons_succ]; unfold StepOK; go_simp; exact ⟨Below.refl _ _, isV_mk _ _⟩
        apply RunL.pure
        · intro vs w hb hd; have d2 : isV _ (vs 2) w := hd 2 (by decide) (by kernel_rfl); unfold isV at d2; clear hd; simp only [List.take, putL, Act.put, List.setIfInBounds_toArray, List.set_cons_zero, List.set_cons_succ]; unfold StepOK; go_simp; exact ⟨Below.refl _ _, isV_mk _ _⟩
        apply RunL.pure
        · intro vs w hb hd; have d1 := hd 1 (by decide) (by kernel_rfl); simp only [TR, Nat.reduceAdd, Nat.reduceSub, List.getD_cons_zero, List.getD_cons_succ] at d1; have d3 : isV _ (vs 3) w := hd 3 (by decide) (by kernel_rfl); unfold isV at d3; clear hd; unfold isV at d1; have hw := HWU.out; simp only [List.take, putL, Act.put, List.setIfInBounds_toArray, List.set_cons_zero, List.set_cons_succ]; unfold StepOK; go_simp; exact ⟨Below.refl _ _, isV_mk _ _⟩
        apply RunL.pure
        · intro vs w hb hd; clear hd; simp only [List.take, putL, Act.put, List.setIfInBounds_toArray, List.set_cons_zero, List.set_cons_succ]; unfold StepOK; go_simp; exact ⟨Below.refl _ _, isV_mk _ _⟩
        apply RunL.pure
        · intro vs w hb hd; have d5 : isV _ (vs 5) w := hd 5 (by decide) (by kernel_rfl); unfold isV at d5; clear hd; have hx0 := cellB hb Y0.out; simp only [List.take, putL, Act.put, List.setIfInBounds_toArray, List.set_cons_zero, List.set_cons_succ]; unfold StepOK; go_simp; exact ⟨Below.refl _ _, isV_mk _ _⟩
        apply RunL.pure
        · intro vs w hb hd; have d4 : isV _ (vs 4) w := hd 4 (by decide) (by kernel_rfl); unfold isV at d4; have d6 : isV _ (vs 6) w := hd 6 (by decide) (by kernel_rfl); unfold isV at d6; clear hd; have hg := HG7.out; simp only [List.take, putL, Act.put, List.setIfInBounds_toArray, List.set_cons_zero, List.set_cons_succ]; unfold StepOK; go_simp; exact ⟨Below.refl _ _, isV_mk _ _⟩
        apply RunL.pure
        · intro vs w hb hd; have d1 := hd 1 (by decide) (by kernel_rfl); simp only [TR, Nat.reduceAdd, Nat.reduceSub, List.getD_cons_zero, List.getD_cons_succ] at d1; have d7 : isV _ (vs 7) w := hd 7 (by decide) (by kernel_rfl); unfold isV at d7; clear hd; simp only [List.take, putL, Act.put, List.setIfInBounds_toArray, List.set_cons_zero, List.set_cons_succ]; unfold StepOK; go_simp; exact ⟨Below.refl _ _, isV_mk _ _⟩
        refine RunL.such (isV undef) (isV_stable _) ?_ ?_
        · intro vs w hb hd; have d8 : isV _ (vs 8) w := hd 8 (by decide) (by kernel_rfl); unfold isV at d8; clear hd; (try have hx1 := cellB hb Y1.out); simp only [List.take, putL, Act.put, List.setIfInBounds_toArray, List.set_cons_zero, List.set_cons_succ]; unfold StepOK; go_simp; first | exact isV_mk _ _ | (rw [if_neg (fun h => by cases h)]; exact isV_mk _ _) | (rw [if_neg (by simp [undef])]; exact isV_mk _ _) | exact ⟨Below.refl _ _, isV_mk _ _⟩
        refine RunL.such (isV undef) (isV_stable _) ?_ ?_
        · intro vs w hb hd; have d8 : isV _ (vs 8) w := hd 8 (by decide) (by kernel_rfl); unfold isV at d8; have d9 := hd 9 (by decide) (by kernel_rfl); simp only [TR, Nat.reduceAdd, Nat.reduceSub, List.getD_cons_zero, List.getD_cons_succ] at d9; clear hd; (try unfold isV at d9); (try have hx1 := cellB hb Y1.out); simp only [List.take, putL, Act.put, List.setIfInBounds_toArray, List.set_cons_zero, List.set_cons_succ]; unfold StepOK; go_simp; first | exact isV_mk _ _ | (rw [if_neg (fun h => by cases h)]; exact isV_mk _ _) | (rw [if_neg (by simp [undef])]; exact isV_mk _ _) | exact ⟨Below.refl _ _, isV_mk _ _⟩
        refine RunL.such (isV undef) (isV_stable _) ?_ ?_
        · intro vs w hb hd; have d8 : isV _ (vs 8) w := hd 8 (by decide) (by kernel_rfl); unfold isV at d8; have d10 := hd 10 (by decide) (by kernel_rfl); simp only [TR, Nat.reduceAdd, Nat.reduceSub, List.getD_cons_zero, List.getD_cons_succ] at d10; clear hd; (try unfold isV at d10); (try have hx1 := cellB hb Y1.out); simp only [List.take, putL, Act.put, List.setIfInBounds_toArray, List.set_cons_zero, List.set_cons_succ]; unfold StepOK; go_simp; first | exact isV_mk _ _ | (rw [if_neg (fun h => by cases h)]; exact isV_mk _ _) | (rw [if_neg (by simp [undef])]; exact isV_mk _ _) | exact ⟨Below.refl _ _, isV_mk _ _⟩
        refine RunL.such (isV undef) (isV_stable _) ?_ ?_
        · intro vs w hb hd; have d11 := hd 11 (by decide) (by kernel_rfl); simp only [TR, Nat.reduceAdd, Nat.reduceSub, List.getD_cons_zero, List.getD_cons_succ] at d11; clear hd; (try unfold isV at d11); (try have hx1 := cellB hb Y1.out); simp only [List.take, putL, Act.put, List.setIfInBounds_toArray, List.set_cons_zero, List.set_cons_succ]; unfold StepOK; go_simp; first | exact isV_mk _ _ | (rw [if_neg (fun h => by cases h)]; exact isV_mk _ _) | (rw [if_neg (by simp [undef])]; exact isV_mk _ _) | exact ⟨Below.refl _ _, isV_mk _ _⟩
        refine RunL.such (isV undef) (isV_stable _) ?_ ?_
        · intro vs w hb hd; have d11 := hd 11 (by decide) (by kernel_rfl); simp only [TR, Nat.reduceAdd, Nat.reduceSub, List.getD_cons_zero, List.getD_cons_succ] at d11; have d12 := hd 12 (by decide) (by kernel_rfl); simp only [TR, Nat.reduceAdd, Nat.reduceSub, List.getD_cons_zero, List.getD_cons_succ] at d12; clear hd; (try unfold isV at d12); (try unfold isV at d11); (try have hx1 := cellB hb Y1.out); simp only [List.take, putL, Act.put, List.setIfInBounds_toArray, List.set_cons_zero, List.set_cons_succ]; unfold StepOK; go_simp; first | exact isV_mk _ _ | (rw [if_neg (fun h => by cases h)]; exact isV_mk _ _) | (rw [if_neg (by simp [undef])]; exact isV_mk _ _) | exact ⟨Below.refl _ _, isV_mk _ _⟩
        refine RunL.such (isV undef) (isV_stable _) ?_ ?_
        · intro vs w hb hd; have d11 := hd 11 (by decide) (by kernel_rfl); simp only [TR, Nat.reduceAdd, Nat.reduceSub, List.getD_cons_zero, List.getD_cons_succ] at d11; have d13 := hd 13 (by decide) (by kernel_rfl); simp only [TR, Nat.reduceAdd, Nat.reduceSub, List.getD_cons_zero, List.getD_cons_succ] at d13; clear hd; (try unfold isV at d13); (try unfold isV at d11); (try have hx1 := cellB hb Y1.out); simp only [List.take, putL, Act.put, List.setIfInBounds_toArray, List.set_cons_zero, List.set_cons_succ]; unfold StepOK; go_simp; first | exact isV_mk _ _ | (rw [if_neg (fun h => by cases h)]; exact isV_mk _ _) | (rw [if_neg (by simp [undef])]; exact isV_mk _ _) | exact ⟨Below.refl _ _, isV_mk _ _⟩
        refine RunL.such (isV undef) (isV_stable _) ?_ ?_
        · intro vs w hb hd; have d11 := hd 11 (by decide) (by kernel_rfl); simp only [TR, Nat.reduceAdd, Nat.reduceSub, List.getD_cons_zero, List.getD_cons_succ] at d11; have d14 := hd 14 (by decide) (by kernel_rfl); simp only [TR, Nat.reduceAdd, Nat.reduceSub, List.getD_cons_zero, List.getD_cons_succ] at d14; clear hd; (try unfold isV at d14); (try unfold isV at d11); (try have hx1 := cellB hb Y1.out); simp only [List.take, putL, Act.put, List.setIfInBounds_toArray, List.set_cons_zero, List.set_cons_succ]; unfold StepOK; go_simp; first | exact isV_mk _ _ | (rw [if_neg (fun h => by cases h)]; exact isV_mk _ _) | (rw [if_neg (by simp [undef])]; exact isV_mk _ _) | exact ⟨Below.refl _ _, isV_mk _ _⟩
        refine RunL.such (isV undef) (isV_stable _) ?_ ?_
        · intro vs w hb hd; have d8 : isV _ (vs 8) w := hd 8 (by decide) (by kernel_rfl); unfold isV at d8; have d11 := hd 11 (by decide) (by kernel_rfl); simp only [TR, Nat.reduceAdd, Nat.reduceSub, List.getD_cons_zero, List.getD_cons_succ] at d11; have d15 := hd 15 (by decide) (by kernel_rfl); simp only [TR, Nat.reduceAdd, Nat.reduceSub, List.getD_cons_zero, List.getD_cons_succ] at d15; clear hd; (try unfold isV at d11); (try unfold isV at d15); (try have hx1 := cellB hb Y1.out); simp only [List.take, putL, Act.put, List.setIfInBounds_toArray, List.set_cons_zero, List.set_cons_succ]; unfold StepOK; go_simp; first | exact isV_mk _ _ | (rw [if_neg (fun h => by cases h)]; exact isV_mk _ _) | (rw [if_neg (by simp [undef])]; exact isV_mk _ _) | exact ⟨Below.refl _ _, isV_mk _ _⟩
        apply RunL.pure
        · intro vs w hb hd; have d8 : isV _ (vs 8) w := hd 8 (by decide) (by kernel_rfl); unfold isV at d8; have d16 := hd 16 (by decide) (by kernel_rfl); simp only [TR, Nat.reduceAdd, Nat.reduceSub, List.getD_cons_zero, List.getD_cons_succ] at d16; clear hd; (try unfold isV at d16); simp only [List.take, putL, Act.put, List.setIfInBounds_toArray, List.set_cons_zero, List.set_cons_succ]; unfold StepOK; go_simp; exact ⟨Below.refl _ _, isV_mk _ _⟩
        intro vs w1 hb hd
        have e0 : isV _ (vs 0) w1 := hd 0 (by decide)
        have e1 := hd 1 (by decide); simp only [TR, Nat.reduceAdd, Nat.reduceSub, List.getD_cons_zero, List.getD_cons_succ] at e1
        have e2 : isV _ (vs 2) w1 := hd 2 (by decide)
        have e3 : isV _ (vs 3) w1 := hd 3 (by decide)
        have e4 : isV _ (vs 4) w1 := hd 4 (by decide)
        have e5 : isV _ (vs 5) w1 := hd 5 (by decide)
        have e6 : isV _ (vs 6) w1 := hd 6 (by decide)
        have e7 : isV _ (vs 7) w1 := hd 7 (by decide)
        have e8 : isV _ (vs 8) w1 := hd 8 (by decide)
        have e9 := hd 9 (by decide); simp only [TR, Nat.reduceAdd, Nat.reduceSub, List.getD_cons_zero, List.getD_cons_succ] at e9
        have e10 := hd 10 (by decide); simp only [TR, Nat.reduceAdd, Nat.reduceSub, List.getD_cons_zero, List.getD_cons_succ] at e10
        have e11 := hd 11 (by decide); simp only [TR, Nat.reduceAdd, Nat.reduceSub, List.getD_cons_zero, List.getD_cons_succ] at e11
        have e12 := hd 12 (by decide); simp only [TR, Nat.reduceAdd, Nat.reduceSub, List.getD_cons_zero, List.getD_cons_succ] at e12
        have e13 := hd 13 (by decide); simp only [TR, Nat.reduceAdd, Nat.reduceSub, List.getD_cons_zero, List.getD_cons_succ] at e13
        have e14 := hd 14 (by decide); simp only [TR, Nat.reduceAdd, Nat.reduceSub, List.getD_cons_zero, List.getD_cons_succ] at e14
        have e15 := hd 15 (by decide); simp only [TR, Nat.reduceAdd, Nat.reduceSub, List.getD_cons_zero, List.getD_cons_succ] at e15
        have e16 := hd 16 (by decide); simp only [TR, Nat.reduceAdd, Nat.reduceSub, List.getD_cons_zero, List.getD_cons_succ] at e16
        have e17 : isV _ (vs 17) w1 := hd 17 (by decide)
        clear hd
        unfold isV at e0 e2 e3 e4 e5 e6 e7 e8 e17
        simp only [putL, Act.put, List.setIfInBounds_toArray, List.set_cons_zero, List.set_cons_succ, e0, e2, e3, e4, e5, e6, e7, e8, e17]
        clear e0 e2 e3 e4 e5 e6 e7 e8 e17
        --@end
        have B6 := Lib.hid (B5.out.trans (hb.mono B5.out.size))
        have OR6 := Lib.hid (Own.below OR5.out hb)
        have k0 := cellB hb Y0.out
        have k1 := cellB hb Y1.out
        have k2 := cellB hb Y2.out
        have k3 := cellB hb Y3.out
        clear hb
        have f0 := World.ownsRow.frozenAt OR6.out 0
        have f1 := World.ownsRow.frozenAt OR6.out 1
        have f2 := World.ownsRow.frozenAt OR6.out 2
        have f3 := World.ownsRow.frozenAt OR6.out 3
        have m0 := World.ownsRow.cellAt OR6.out 0 (by omega)
        have m1 := World.ownsRow.cellAt OR6.out 1 (by omega)
        have m2 := World.ownsRow.cellAt OR6.out 2 (by omega)
        have m3 := World.ownsRow.cellAt OR6.out 3 (by omega)
        simp only [List.getElem?_cons_zero, List.getElem?_cons_succ] at m0 m1 m2 m3
        have Hst := Lib.hid (stored4R OR6.out (.int .i64 room) (.slice A n c) (.int .i64 fuse) (.bool false))
        go_wp2_with fail
        refine bodyPost_ret (results_cell1R rfl _ _ _ ⟨w.heap.size + 1, 0, none⟩ rfl _ (load_own2D Hst.out.1)) rfl ?_
        rw [HE.out]
        exact ⟨A, n, c, es, rfl, R2.kept (held_of_own OR6.out) (HS0.out.below B6.out) Hst.out.2, rfl, wrote2 B6.out Hst.out.2 (by omega)⟩
      · have HG7 := Lib.hid (show decide (room < (us : Int) + (tb.length : Int)) = false from decide_eq_false g7)
        rcases HAK.out with ⟨ht, rfl⟩ | ⟨ht, rfl⟩
        · have HE := Lib.hid (show appendD ⟨room, fuse, false, es.map FE.f⟩ nm tb = deedD ⟨room, fuse, false, es.map FE.f⟩ (putF (es.map FE.f) ⟨nm, fb ++ tb, fz⟩ nm) by
            unfold appendD
            rw [if_neg (by simp), if_neg (by rw [HNM.out]; simp), if_neg (fun h => h.elim (by simp only; rw [← HUS.out]; exact g7) (fun h => by simp only [ht] at h; exact absurd h.1 (by simp))), HPut.out])
          clear ht
          go_upto_region 6 with fail
          --@region 106 6 r2a6b.spec
          refine wp_region_run (by kernel_rfl) (by kernel_rfl) ?_
          apply RunL.pure
          · intro vs w hb hd; clear hd; have hx0 := cellB hb Y0.out; have hx1 := cellB hb Y1.out; have hx2 := cellB hb Y2.out; have hx3 := cellB hb Y3.out; simp only [List.take, putL, Act.put, List.setIfInBounds_toArray, List.set_cons_zero, List.set_cons_succ]; unfold StepOK; go_simp; exact ⟨Below.refl _ _, isV_mk _ _⟩
          refine RunL.such (isV (.int .i64 (us : Int))) (isV_stable _) ?_ ?_
          · intro vs w hb hd; have d0 : isV _ (vs 0) w := hd 0 (by decide) (by kernel_rfl); unfold isV at d0; clear hd; have hx1 := S5.out.below hb; simp only [List.take, putL, Act.put, List.setIfInBounds_toArray, List.set_cons_zero, List.set_cons_succ]; unfold StepOK; go_simp; exact ⟨Below.refl _ _, such_of_bool (by rw [HUS.out]; exact r2Used_any hx1.sl (by omega) HU.out)⟩
          apply RunL.pure
          · intro vs w hb hd; clear hd; simp only [List.take, putL, Act.put, List.setIfInBounds_toArray, List.set_cons_zero, List.set_cons_succ]; unfold StepOK; go_simp; exact ⟨Below.refl _ _, isV_mk _ _⟩
          apply RunL.pure
          · intro vs w hb hd; have d2 : isV _ (vs 2) w := hd 2 (by decide) (by kernel_rfl); unfold isV at d2; clear hd; simp only [List.take, putL, Act.put, List.setIfInBounds_toArray, List.set_cons_zero, List.set_cons_succ]; unfold StepOK; go_simp; exact ⟨Below.refl _ _, isV_mk _ _⟩
          apply RunL.pure
          · intro vs w hb hd; have d1 := hd 1 (by decide) (by kernel_rfl); simp only [TR, Nat.reduceAdd, Nat.reduceSub, List.getD_cons_zero, List.getD_cons_succ] at d1; have d3 : isV _ (vs 3) w := hd 3 (by decide) (by kernel_rfl); unfold isV at d3; clear hd; unfold isV at d1; have hw := HWU.out; simp only [List.take, putL, Act.put, List.setIfInBounds_toArray, List.set_cons_zero, List.set_cons_succ]; unfold StepOK; go_simp; exact ⟨Below.refl _ _, isV_mk _ _⟩
          apply RunL.pure
          · intro vs w hb hd; clear hd; simp only [List.take, putL, Act.put, List.setIfInBounds_toArray, List.set_cons_zero, List.set_cons_succ]; unfold StepOK; go_simp; exact ⟨Below.refl _ _, isV_mk _ _⟩
          apply RunL.pure
          · intro vs w hb hd; have d5 : isV _ (vs 5) w := hd 5 (by decide) (by kernel_rfl); unfold isV at d5; clear hd; have hx0 := cellB hb Y0.out; simp only [List.take, putL, Act.put, List.setIfInBounds_toArray, List.set_cons_zero, List.set_cons_succ]; unfold StepOK; go_simp; exact ⟨Below.refl _ _, isV_mk _ _⟩
          apply RunL.pure
          · intro vs w hb hd; have d4 : isV _ (vs 4) w := hd 4 (by decide) (by kernel_rfl); unfold isV at d4; have d6 : isV _ (vs 6) w := hd 6 (by decide) (by kernel_rfl); unfold isV at d6; clear hd; have hg := HG7.out; simp only [List.take, putL, Act.put, List.setIfInBounds_toArray, List.set_cons_zero, List.set_cons_succ]; unfold StepOK; go_simp; exact ⟨Below.refl _ _, isV_mk _ _⟩
          apply RunL.pure
          · intro vs w hb hd; have d1 := hd 1 (by decide) (by kernel_rfl); simp only [TR, Nat.reduceAdd, Nat.reduceSub, List.getD_cons_zero, List.getD_cons_succ] at d1; have d7 : isV _ (vs 7) w := hd 7 (by decide) (by kernel_rfl); unfold isV at d7; clear hd; simp only [List.take, putL, Act.put, List.setIfInBounds_toArray, List.set_cons_zero, List.set_cons_succ]; unfold StepOK; go_simp; exact ⟨Below.refl _ _, isV_mk _ _⟩
          apply RunL.pure
          · intro vs w hb hd; have d8 : isV _ (vs 8) w := hd 8 (by decide) (by kernel_rfl); unfold isV at d8; clear hd; simp only [List.take, putL, Act.put, List.setIfInBounds_toArray, List.set_cons_zero, List.set_cons_succ]; unfold StepOK; go_simp; exact ⟨Below.refl _ _, isV_mk _ _⟩
          apply RunL.pure
          · intro vs w hb hd; have d8 : isV _ (vs 8) w := hd 8 (by decide) (by kernel_rfl); unfold isV at d8; have d9 : isV _ (vs 9) w := hd 9 (by decide) (by kernel_rfl); unfold isV at d9; clear hd; simp only [List.take, putL, Act.put, List.setIfInBounds_toArray, List.set_cons_zero, List.set_cons_succ]; unfold StepOK; go_simp; exact ⟨Below.refl _ _, isV_mk _ _⟩
          apply RunL.pure
          · intro vs w hb hd; have d8 : isV _ (vs 8) w := hd 8 (by decide) (by kernel_rfl); unfold isV at d8; have d10 : isV _ (vs 10) w := hd 10 (by decide) (by kernel_rfl); unfold isV at d10; clear hd; simp only [List.take, putL, Act.put, List.setIfInBounds_toArray, List.set_cons_zero, List.set_cons_succ]; unfold StepOK; go_simp; exact ⟨Below.refl _ _, isV_mk _ _⟩
          refine RunL.such (isV undef) (isV_stable _) ?_ ?_
          · intro vs w hb hd; have d11 : isV _ (vs 11) w := hd 11 (by decide) (by kernel_rfl); unfold isV at d11; clear hd; (try have hx1 := cellB hb Y1.out); simp only [List.take, putL, Act.put, List.setIfInBounds_toArray, List.set_cons_zero, List.set_cons_succ]; unfold StepOK; go_simp; first | exact isV_mk _ _ | (rw [if_neg (fun h => by cases h)]; exact isV_mk _ _) | (rw [if_neg (by simp [undef])]; exact isV_mk _ _) | exact ⟨Below.refl _ _, isV_mk _ _⟩
          refine RunL.such (isV undef) (isV_stable _) ?_ ?_
          · intro vs w hb hd; have d11 : isV _ (vs 11) w := hd 11 (by decide) (by kernel_rfl); unfold isV at d11; have d12 := hd 12 (by decide) (by kernel_rfl); simp only [TR, Nat.reduceAdd, Nat.reduceSub, List.getD_cons_zero, List.getD_cons_succ] at d12; clear hd; (try unfold isV at d12); (try have hx1 := cellB hb Y1.out); simp only [List.take, putL, Act.put, List.setIfInBounds_toArray, List.set_cons_zero, List.set_cons_succ]; unfold StepOK; go_simp; first | exact isV_mk _ _ | (rw [if_neg (fun h => by cases h)]; exact isV_mk _ _) | (rw [if_neg (by simp [undef])]; exact isV_mk _ _) | exact ⟨Below.refl _ _, isV_mk _ _⟩
          refine RunL.such (isV undef) (isV_stable _) ?_ ?_
          · intro vs w hb hd; have d11 : isV _ (vs 11) w := hd 11 (by decide) (by kernel_rfl); unfold isV at d11; have d13 := hd 13 (by decide) (by kernel_rfl); simp only [TR, Nat.reduceAdd, Nat.reduceSub, List.getD_cons_zero, List.getD_cons_succ] at d13; clear hd; (try unfold isV at d13); (try have hx1 := cellB hb Y1.out); simp only [List.take, putL, Act.put, List.setIfInBounds_toArray, List.set_cons_zero, List.set_cons_succ]; unfold StepOK; go_simp; first | exact isV_mk _ _ | (rw [if_neg (fun h => by cases h)]; exact isV_mk _ _) | (rw [if_neg (by simp [undef])]; exact isV_mk _ _) | exact ⟨Below.refl _ _, isV_mk _ _⟩
          refine RunL.such (isV undef) (isV_stable _) ?_ ?_
          · intro vs w hb hd; have d11 : isV _ (vs 11) w := hd 11 (by decide) (by kernel_rfl); unfold isV at d11; have d14 := hd 14 (by decide) (by kernel_rfl); simp only [TR, Nat.reduceAdd, Nat.reduceSub, List.getD_cons_zero, List.getD_cons_succ] at d14; clear hd; (try unfold isV at d14); (try have hx1 := cellB hb Y1.out); simp only [List.take, putL, Act.put, List.setIfInBounds_toArray, List.set_cons_zero, List.set_cons_succ]; unfold StepOK; go_simp; first | exact isV_mk _ _ | (rw [if_neg (fun h => by cases h)]; exact isV_mk _ _) | (rw [if_neg (by simp [undef])]; exact isV_mk _ _) | exact ⟨Below.refl _ _, isV_mk _ _⟩
          apply RunL.pure
          · intro vs w hb hd; have d8 : isV _ (vs 8) w := hd 8 (by decide) (by kernel_rfl); unfold isV at d8; have d11 : isV _ (vs 11) w := hd 11 (by decide) (by kernel_rfl); unfold isV at d11; have d15 := hd 15 (by decide) (by kernel_rfl); simp only [TR, Nat.reduceAdd, Nat.reduceSub, List.getD_cons_zero, List.getD_cons_succ] at d15; clear hd; (try unfold isV at d15); simp only [List.take, putL, Act.put, List.setIfInBounds_toArray, List.set_cons_zero, List.set_cons_succ]; unfold StepOK; go_simp; exact ⟨Below.refl _ _, isV_mk _ _⟩
          apply RunL.pure
          · intro vs w hb hd; have d8 : isV _ (vs 8) w := hd 8 (by decide) (by kernel_rfl); unfold isV at d8; have d16 : isV _ (vs 16) w := hd 16 (by decide) (by kernel_rfl); unfold isV at d16; clear hd; simp only [List.take, putL, Act.put, List.setIfInBounds_toArray, List.set_cons_zero, List.set_cons_succ]; unfold StepOK; go_simp; exact ⟨Below.refl _ _, isV_mk _ _⟩
          intro vs w1 hb hd
          have e0 : isV _ (vs 0) w1 := hd 0 (by decide)
          have e1 := hd 1 (by decide); simp only [TR, Nat.reduceAdd, Nat.reduceSub, List.getD_cons_zero, List.getD_cons_succ] at e1
          have e2 : isV _ (vs 2) w1 := hd 2 (by decide)
          have e3 : isV _ (vs 3) w1 := hd 3 (by decide)
          have e4 : isV _ (vs 4) w1 := hd 4 (by decide)
          have e5 : isV _ (vs 5) w1 := hd 5 (by decide)
          have e6 : isV _ (vs 6) w1 := hd 6 (by decide)
          have e7 : isV _ (vs 7) w1 := hd 7 (by decide)
          have e8 : isV _ (vs 8) w1 := hd 8 (by decide)
          have e9 : isV _ (vs 9) w1 := hd 9 (by decide)
          have e10 : isV _ (vs 10) w1 := hd 10 (by decide)
          have e11 : isV _ (vs 11) w1 := hd 11 (by decide)
          have e12 := hd 12 (by decide); simp only [TR, Nat.reduceAdd, Nat.reduceSub, List.getD_cons_zero, List.getD_cons_succ] at e12
          have e13 := hd 13 (by decide); simp only [TR, Nat.reduceAdd, Nat.reduceSub, List.getD_cons_zero, List.getD_cons_succ] at e13
          have e14 := hd 14 (by decide); simp only [TR, Nat.reduceAdd, Nat.reduceSub, List.getD_cons_zero, List.getD_cons_succ] at e14
          have e15 := hd 15 (by decide); simp only [TR, Nat.reduceAdd, Nat.reduceSub, List.getD_cons_zero, List.getD_cons_succ] at e15
          have e16 : isV _ (vs 16) w1 := hd 16 (by decide)
          have e17 : isV _ (vs 17) w1 := hd 17 (by decide)
          clear hd
          unfold isV at e0 e2 e3 e4 e5 e6 e7 e8 e9 e10 e11 e16 e17
          simp only [putL, Act.put, List.setIfInBounds_toArray, List.set_cons_zero, List.set_cons_succ, e0, e2, e3, e4, e5, e6, e7, e8, e9, e10, e11, e16, e17]
          clear e0 e2 e3 e4 e5 e6 e7 e8 e9 e10 e11 e16 e17
          --@end
          have B6 := Lib.hid (B5.out.trans (hb.mono B5.out.size))
          have OR6 := Lib.hid (Own.below OR5.out hb)
          have QO6 := Lib.hid (Own.below QO5.out hb)
          have SB6 := Lib.hid (SB5.out.below hb)
          have k0 := cellB hb Y0.out
          have k1 := cellB hb Y1.out
          have k2 := cellB hb Y2.out
          have k3 := cellB hb Y3.out
          clear hb
          have hcb := r2burns_any (w := w1) (room := room) (dark := false) (A := A) (n := n) (c := c) hf
          go_wp2_with fail
          refine hcb.mono ?_; rintro x w7 ⟨rfl, b7⟩
          have B6b := Lib.hid (B6.out.trans (b7.mono B6.out.size))
          have OR6b := Lib.hid (Own.below OR6.out b7)
          have QO6b := Lib.hid (Own.below QO6.out b7)
          have SB6b := Lib.hid (SB6.out.below b7)
          clear hcb k0 k1 k2 k3
          by_cases hz : fuse = 0
          · subst hz
            have HV := Lib.hid (show burnI 0 false = (-1, true, 15) by unfold burnI; rw [if_neg (by omega), if_pos rfl])
            rw [HV.out]
            simp only
            have q0 := box_cellsR w7 [.int .i64 room, .slice A n c, .int .i64 (-1), .bool true] 30 0 _ rfl
            have q1 := box_cellsR w7 [.int .i64 room, .slice A n c, .int .i64 (-1), .bool true] 30 1 _ rfl
            have q2 := box_cellsR w7 [.int .i64 room, .slice A n c, .int .i64 (-1), .bool true] 30 2 _ rfl
            have q3 := box_cellsR w7 [.int .i64 room, .slice A n c, .int .i64 (-1), .bool true] 30 3 _ rfl
            have qb := below_alloc1 w7 (.cells #[.int .i64 room, .slice A n c, .int .i64 (-1), .bool true] 30)
            have qo := new_own w7 [.int .i64 room, .slice A n c, .int .i64 (-1), .bool true] 30 4 rfl (by unfold maxLen; omega)
            go_upto_region 9 with fail
            obtain ⟨w8, hw8⟩ : ∃ w8, w8 = w7.alloc (.cells #[.int .i64 room, .slice A n c, .int .i64 (-1), .bool true] 30) := ⟨_, rfl⟩
            have hTw8 : (w7.alloc (.cells [.int .i64 room, .slice A n c, .int .i64 (-1), .bool true].toArray 30)) = w8 := hw8.symm
            rw [hTw8] at q0 q1 q2 q3 qo
            rw [← hw8] at qb ⊢
            clear hTw8 hw8
            have B8 := Lib.hid (B6b.out.trans (qb.mono B6b.out.size))
            have OR8 := Lib.hid (Own.below OR6b.out qb)
            clear qb qo
            have f0 := World.ownsRow.frozenAt OR8.out 0
            have f1 := World.ownsRow.frozenAt OR8.out 1
            have f2 := World.ownsRow.frozenAt OR8.out 2
            have f3 := World.ownsRow.frozenAt OR8.out 3
            have m0 := World.ownsRow.cellAt OR8.out 0 (by omega)
            have m1 := World.ownsRow.cellAt OR8.out 1 (by omega)
            have m2 := World.ownsRow.cellAt OR8.out 2 (by omega)
            have m3 := World.ownsRow.cellAt OR8.out 3 (by omega)
            simp only [List.getElem?_cons_zero, List.getElem?_cons_succ] at m0 m1 m2 m3
            have Hst := Lib.hid (stored4R OR8.out (.int .i64 room) (.slice A n c) (.int .i64 (-1)) (.bool true))
            go_wp2_with fail
            refine bodyPost_ret (results_cell1R rfl _ _ _ ⟨w.heap.size + 1, 0, none⟩ rfl _ (load_own2D Hst.out.1)) rfl ?_
            rw [HE.out]
            exact ⟨A, n, c, es, rfl, R2.kept (held_of_own OR8.out) (HS0.out.below B8.out) Hst.out.2, rfl, wrote2 B8.out Hst.out.2 (by omega)⟩
          · obtain ⟨fu, hfu⟩ : ∃ fu, fu = (if 0 < fuse then fuse - 1 else fuse) := ⟨_, rfl⟩
            have HV := Lib.hid (show burnI fuse false = (fu, false, 0) by
              unfold burnI
              by_cases h5 : fuse < 0
              · rw [if_pos h5, hfu, if_neg (by omega)]
              · rw [if_neg h5, if_neg hz, hfu, if_pos (by omega)])
            have HD := Lib.hid (show ∀ fs', deedD ⟨room, fuse, false, es.map FE.f⟩ fs' = (0, ⟨room, fu, false, fs'⟩) from fun fs' => by unfold deedD; rw [if_neg hz, hfu])
            rw [HV.out]
            simp only
            clear hfu hz
            have q0 := box_cellsR w7 [.int .i64 room, .slice A n c, .int .i64 fu, .bool false] 30 0 _ rfl
            have q1 := box_cellsR w7 [.int .i64 room, .slice A n c, .int .i64 fu, .bool false] 30 1 _ rfl
            have q2 := box_cellsR w7 [.int .i64 room, .slice A n c, .int .i64 fu, .bool false] 30 2 _ rfl
            have q3 := box_cellsR w7 [.int .i64 room, .slice A n c, .int .i64 fu, .bool false] 30 3 _ rfl
            have qb := below_alloc1 w7 (.cells #[.int .i64 room, .slice A n c, .int .i64 fu, .bool false] 30)
            have qo := new_own w7 [.int .i64 room, .slice A n c, .int .i64 fu, .bool false] 30 4 rfl (by unfold maxLen; omega)
            go_upto_region 9 with fail
            obtain ⟨w8, hw8⟩ : ∃ w8, w8 = w7.alloc (.cells #[.int .i64 room, .slice A n c, .int .i64 fu, .bool false] 30) := ⟨_, rfl⟩
            have hTw8 : (w7.alloc (.cells [.int .i64 room, .slice A n c, .int .i64 fu, .bool false].toArray 30)) = w8 := hw8.symm
            rw [hTw8] at q0 q1 q2 q3 qo
            rw [← hw8] at qb ⊢
            clear hTw8 hw8
            have B7 := Lib.hid (B6b.out.trans (qb.mono B6b.out.size))
            have OR7 := Lib.hid (Own.below OR6b.out qb)
            have QO7 := Lib.hid (Own.below QO6b.out qb)
            have SB7 := Lib.hid (SB6b.out.below qb)
            have X1 := Lib.hid (World.ownsRow.cellAt QO7.out 1 (by omega))
            have X2 := Lib.hid (World.ownsRow.cellAt QO7.out 2 (by omega))
            simp only [List.getElem?_cons_zero, List.getElem?_cons_succ] at X1 X2
            have Z0 := Lib.hid q0
            have Z1 := Lib.hid q1
            have Z2 := Lib.hid q2
            have Z3 := Lib.hid q3
            obtain ⟨L, hL⟩ : ∃ L, fb ++ tb = L := ⟨_, rfl⟩
            rw [hL] at HE
            have HL := Lib.hid hL
            clear hL qb qo q0 q1 q2 q3 b7
            go_upto_region 11 with fail
            --@region 106 11 r2a11.spec
            refine wp_region_tail 11 (by kernel_rfl) (by kernel_rfl) (by kernel_rfl) ?_
            apply RunT.pure
            · intro vs w hb hd; clear hd; have hx0 := cellB hb Z0.out; have hx1 := cellB hb Z1.out; have hx2 := cellB hb Z2.out; have hx3 := cellB hb Z3.out; simp only [List.take, putL, Act.put, List.setIfInBounds_toArray, List.set_cons_zero, List.set_cons_succ]; unfold StepOK; go_simp; exact ⟨Below.refl _ _, isV_mk _ _⟩
            apply RunT.pure
            · intro vs w hb hd; clear hd; simp only [List.take, putL, Act.put, List.setIfInBounds_toArray, List.set_cons_zero, List.set_cons_succ]; unfold StepOK; go_simp; exact ⟨Below.refl _ _, isV_mk _ _⟩
            apply RunT.pure
            · intro vs w hb hd; clear hd; simp only [List.take, putL, Act.put, List.setIfInBounds_toArray, List.set_cons_zero, List.set_cons_succ]; unfold StepOK; go_simp; exact ⟨Below.refl _ _, isV_mk _ _⟩
            apply RunT.pure
            · intro vs w hb hd; have d2 : isV _ (vs 2) w := hd 2 (by decide) (by kernel_rfl); unfold isV at d2; clear hd; have hx1 := cellB hb X1.out; simp only [List.take, putL, Act.put, List.setIfInBounds_toArray, List.set_cons_zero, List.set_cons_succ]; unfold StepOK; go_simp; exact ⟨Below.refl _ _, isV_mk _ _⟩
            apply RunT.pure
            · intro vs w hb hd; clear hd; simp only [List.take, putL, Act.put, List.setIfInBounds_toArray, List.set_cons_zero, List.set_cons_succ]; unfold StepOK; go_simp; exact ⟨Below.refl _ _, isV_mk _ _⟩
            refine RunT.such (isTx G L) (isTx_st _ _) ?_ ?_
            · intro vs w hb hd; have d3 : isV _ (vs 3) w := hd 3 (by decide) (by kernel_rfl); unfold isV at d3; have d4 : isV _ (vs 4) w := hd 4 (by decide) (by kernel_rfl); unfold isV at d4; clear hd; have hx2 := SB7.out.below hb; have hx4 := (HTB.out.below B7.out).below hb; simp only [List.take, putL, Act.put, List.setIfInBounds_toArray, List.set_cons_zero, List.set_cons_succ]; unfold StepOK; go_simp; exact ⟨Below.refl _ _, (text_such (G := G) (l := fb) (b := tb) (fun q hq => HG.out q (by have := B7.out.size; have := hb.size; omega)) hx2 hx4 (by have := HLen.out; omega) (by omega)).mono (fun e w' ⟨v, h1, h2, h3⟩ => ⟨v, h1, h2, by rw [← HL.out]; exact h3⟩)⟩
            apply RunT.pure
            · intro vs w hb hd; clear hd; simp only [List.take, putL, Act.put, List.setIfInBounds_toArray, List.set_cons_zero, List.set_cons_succ]; unfold StepOK; go_simp; exact ⟨Below.refl _ _, isV_mk _ _⟩
            apply RunT.pure
            · intro vs w hb hd; have d6 : isV _ (vs 6) w := hd 6 (by decide) (by kernel_rfl); unfold isV at d6; clear hd; have hx3 := cellB hb X2.out; simp only [List.take, putL, Act.put, List.setIfInBounds_toArray, List.set_cons_zero, List.set_cons_succ]; unfold StepOK; go_simp; exact ⟨Below.refl _ _, isV_mk _ _⟩
            refine RunT.such (isFl2 G nm L (fz : Int)) (isFl2_st _ _ _ _) ?_ ?_
            · intro vs w hb hd; have d1 : isV _ (vs 1) w := hd 1 (by decide) (by kernel_rfl); unfold isV at d1; have d5 := hd 5 (by decide) (by kernel_rfl); simp only [TR, Nat.reduceAdd, Nat.reduceSub, List.getD_cons_zero, List.getD_cons_succ] at d5; have d7 : isV _ (vs 7) w := hd 7 (by decide) (by kernel_rfl); unfold isV at d7; clear hd; obtain ⟨A6, c6, e6, s6, l6⟩ := d5; simp only [List.take, putL, Act.put, List.setIfInBounds_toArray, List.set_cons_zero, List.set_cons_succ]; unfold StepOK; go_simp; exact ⟨Below.refl _ _, A6, c6, rfl, s6, l6⟩
            apply RunT.pure
            · intro vs w hb hd; clear hd; simp only [List.take, putL, Act.put, List.setIfInBounds_toArray, List.set_cons_zero, List.set_cons_succ]; unfold StepOK; go_simp; exact ⟨Below.refl _ _, isV_mk _ _⟩
            refine RunT.such (isPut G room fu (putF (es.map FE.f) ⟨nm, L, fz⟩ nm)) (isPut_st _ _ _ _) ?_ ?_
            · intro vs w hb hd; have d0 : isV _ (vs 0) w := hd 0 (by decide) (by kernel_rfl); unfold isV at d0; have d5 := hd 5 (by decide) (by kernel_rfl); simp only [TR, Nat.reduceAdd, Nat.reduceSub, List.getD_cons_zero, List.getD_cons_succ] at d5; have d8 := hd 8 (by decide) (by kernel_rfl); simp only [TR, Nat.reduceAdd, Nat.reduceSub, List.getD_cons_zero, List.getD_cons_succ] at d8; have d9 : isV _ (vs 9) w := hd 9 (by decide) (by kernel_rfl); unfold isV at d9; clear hd; obtain ⟨A6, c6, e8, s6, l6⟩ := d8; simp only [List.take, putL, Act.put, List.setIfInBounds_toArray, List.set_cons_zero, List.set_cons_succ]; unfold StepOK; go_simp; exact ⟨Below.refl _ _, put_such (fun q hq => HG.out q (by have := B7.out.size; have := hb.size; omega)) ((HS0.out.below B7.out).below hb) hn nm nm A6 L c6 fz s6 (fun hne a ha => l6 a ha)⟩
            intro vs w1 hb hd
            have e0 : isV _ (vs 0) w1 := hd 0 (by decide)
            have e1 : isV _ (vs 1) w1 := hd 1 (by decide)
            have e2 : isV _ (vs 2) w1 := hd 2 (by decide)
            have e3 : isV _ (vs 3) w1 := hd 3 (by decide)
            have e4 : isV _ (vs 4) w1 := hd 4 (by decide)
            have e5 := hd 5 (by decide); simp only [TR, Nat.reduceAdd, Nat.reduceSub, List.getD_cons_zero, List.getD_cons_succ] at e5
            have e6 : isV _ (vs 6) w1 := hd 6 (by decide)
            have e7 : isV _ (vs 7) w1 := hd 7 (by decide)
            have e8 := hd 8 (by decide); simp only [TR, Nat.reduceAdd, Nat.reduceSub, List.getD_cons_zero, List.getD_cons_succ] at e8
            have e9 : isV _ (vs 9) w1 := hd 9 (by decide)
            have e10 := hd 10 (by decide); simp only [TR, Nat.reduceAdd, Nat.reduceSub, List.getD_cons_zero, List.getD_cons_succ] at e10
            clear hd
            unfold isV at e0 e1 e2 e3 e4 e6 e7 e9
            simp only [List.drop_succ_cons, List.drop_zero, List.take_succ_cons, List.take_zero]
            simp only [putL, Act.put, List.setIfInBounds_toArray, List.set_cons_zero, List.set_cons_succ, e0, e1, e2, e3, e4, e6, e7, e9]
            clear e0 e1 e2 e3 e4 e6 e7 e9
            --@end
            obtain ⟨A9, n9, c9, es9, e10, r9, hm9⟩ := e10
            simp only [Nat.reduceAdd, e10]
            have B9 := Lib.hid (B7.out.trans (hb.mono B7.out.size))
            have OR9 := Lib.hid (Own.below OR7.out hb)
            have R9 := Lib.hid r9
            have HM9 := Lib.hid hm9
            clear e10 hb r9 hm9
            have f0 := World.ownsRow.frozenAt OR9.out 0
            have f1 := World.ownsRow.frozenAt OR9.out 1
            have f2 := World.ownsRow.frozenAt OR9.out 2
            have f3 := World.ownsRow.frozenAt OR9.out 3
            have m0 := World.ownsRow.cellAt OR9.out 0 (by omega)
            have m1 := World.ownsRow.cellAt OR9.out 1 (by omega)
            have m2 := World.ownsRow.cellAt OR9.out 2 (by omega)
            have m3 := World.ownsRow.cellAt OR9.out 3 (by omega)
            simp only [List.getElem?_cons_zero, List.getElem?_cons_succ] at m0 m1 m2 m3
            have Hst := Lib.hid (stored4R OR9.out (.int .i64 room) (.slice A9 n9 c9) (.int .i64 fu) (.bool false))
            go_wp2_with fail
            refine bodyPost_ret (results_cell1R rfl _ _ _ ⟨w.heap.size + 1, 0, none⟩ rfl _ (load_own2D Hst.out.1)) rfl ?_
            rw [HE.out, HD.out]
            exact ⟨A9, n9, c9, es9, rfl, R2.kept (held_of_own OR9.out) R9.out Hst.out.2, HM9.out, wrote2 B9.out Hst.out.2 (by omega)⟩
        · by_cases g8 : (200 : Int) ≤ (n : Int)
          · have HE := Lib.hid (show appendD ⟨room, fuse, false, es.map FE.f⟩ nm tb = (5, ⟨room, fuse, false, es.map FE.f⟩) by
              unfold appendD
              rw [if_neg (by simp), if_neg (by rw [HNM.out]; simp), if_pos (.inr ⟨ht, by simp only [List.length_map]; omega⟩)])
            clear ht
            go_upto_region 6 with fail
            --@region 106 6 r2a6c.spec
            refine wp_region_run (by kernel_rfl) (by kernel_rfl) ?_
            apply RunL.pure
            · intro vs w hb hd; clear hd; have hx0 := cellB hb Y0.out; have hx1 := cellB hb Y1.out; have hx2 := cellB hb Y2.out; have hx3 := cellB hb Y3.out; simp only [List.take, putL, Act.put, List.setIfInBounds_toArray, List.set_cons_zero, List.set_cons_succ]; unfold StepOK; go_simp; exact ⟨Below.refl _ _, isV_mk _ _⟩
            refine RunL.such (isV (.int .i64 (us : Int))) (isV_stable _) ?_ ?_
            · intro vs w hb hd; have d0 : isV _ (vs 0) w := hd 0 (by decide) (by kernel_rfl); unfold isV at d0; clear hd; have hx1 := S5.out.below hb; simp only [List.take, putL, Act.put, List.setIfInBounds_toArray, List.set_cons_zero, List.set_cons_succ]; unfold StepOK; go_simp; exact ⟨Below.refl _ _, such_of_bool (by rw [HUS.out]; exact r2Used_any hx1.sl (by omega) HU.out)⟩
            apply RunL.pure
            · intro vs w hb hd; clear hd; simp only [List.take, putL, Act.put, List.setIfInBounds_toArray, List.set_cons_zero, List.set_cons_succ]; unfold StepOK; go_simp; exact ⟨Below.refl _ _, isV_mk _ _⟩
            apply RunL.pure
            · intro vs w hb hd; have d2 : isV _ (vs 2) w := hd 2 (by decide) (by kernel_rfl); unfold isV at d2; clear hd; simp only [List.take, putL, Act.put, List.setIfInBounds_toArray, List.set_cons_zero, List.set_cons_succ]; unfold StepOK; go_simp; exact ⟨Below.refl _ _, isV_mk _ _⟩
            apply RunL.pure
            · intro vs w hb hd; have d1 := hd 1 (by decide) (by kernel_rfl); simp only [TR, Nat.reduceAdd, Nat.reduceSub, List.getD_cons_zero, List.getD_cons_succ] at d1; have d3 : isV _ (vs 3) w := hd 3 (by decide) (by kernel_rfl); unfold isV at d3; clear hd; unfold isV at d1; have hw := HWU.out; simp only [List.take, putL, Act.put, List.setIfInBounds_toArray, List.set_cons_zero, List.set_cons_succ]; unfold StepOK; go_simp; exact ⟨Below.refl _ _, isV_mk _ _⟩
            apply RunL.pure
            · intro vs w hb hd; clear hd; simp only [List.take, putL, Act.put, List.setIfInBounds_toArray, List.set_cons_zero, List.set_cons_succ]; unfold StepOK; go_simp; exact ⟨Below.refl _ _, isV_mk _ _⟩
            apply RunL.pure
            · intro vs w hb hd; have d5 : isV _ (vs 5) w := hd 5 (by decide) (by kernel_rfl); unfold isV at d5; clear hd; have hx0 := cellB hb Y0.out; simp only [List.take, putL, Act.put, List.setIfInBounds_toArray, List.set_cons_zero, List.set_cons_succ]; unfold StepOK; go_simp; exact ⟨Below.refl _ _, isV_mk _ _⟩
            apply RunL.pure
            · intro vs w hb hd; have d4 : isV _ (vs 4) w := hd 4 (by decide) (by kernel_rfl); unfold isV at d4; have d6 : isV _ (vs 6) w := hd 6 (by decide) (by kernel_rfl); unfold isV at d6; clear hd; have hg := HG7.out; simp only [List.take, putL, Act.put, List.setIfInBounds_toArray, List.set_cons_zero, List.set_cons_succ]; unfold StepOK; go_simp; exact ⟨Below.refl _ _, isV_mk _ _⟩
            apply RunL.pure
            · intro vs w hb hd; have d1 := hd 1 (by decide) (by kernel_rfl); simp only [TR, Nat.reduceAdd, Nat.reduceSub, List.getD_cons_zero, List.getD_cons_succ] at d1; have d7 : isV _ (vs 7) w := hd 7 (by decide) (by kernel_rfl); unfold isV at d7; clear hd; simp only [List.take, putL, Act.put, List.setIfInBounds_toArray, List.set_cons_zero, List.set_cons_succ]; unfold StepOK; go_simp; exact ⟨Below.refl _ _, isV_mk _ _⟩
            apply RunL.pure
            · intro vs w hb hd; have d8 : isV _ (vs 8) w := hd 8 (by decide) (by kernel_rfl); unfold isV at d8; clear hd; simp only [List.take, putL, Act.put, List.setIfInBounds_toArray, List.set_cons_zero, List.set_cons_succ]; unfold StepOK; go_simp; exact ⟨Below.refl _ _, isV_mk _ _⟩
            apply RunL.pure
            · intro vs w hb hd; have d8 : isV _ (vs 8) w := hd 8 (by decide) (by kernel_rfl); unfold isV at d8; have d9 : isV _ (vs 9) w := hd 9 (by decide) (by kernel_rfl); unfold isV at d9; clear hd; simp only [List.take, putL, Act.put, List.setIfInBounds_toArray, List.set_cons_zero, List.set_cons_succ]; unfold StepOK; go_simp; exact ⟨Below.refl _ _, isV_mk _ _⟩
            apply RunL.pure
            · intro vs w hb hd; have d8 : isV _ (vs 8) w := hd 8 (by decide) (by kernel_rfl); unfold isV at d8; have d10 : isV _ (vs 10) w := hd 10 (by decide) (by kernel_rfl); unfold isV at d10; clear hd; simp only [List.take, putL, Act.put, List.setIfInBounds_toArray, List.set_cons_zero, List.set_cons_succ]; unfold StepOK; go_simp; exact ⟨Below.refl _ _, isV_mk _ _⟩
            apply RunL.pure
            · intro vs w hb hd; have d11 : isV _ (vs 11) w := hd 11 (by decide) (by kernel_rfl); unfold isV at d11; clear hd; simp only [List.take, putL, Act.put, List.setIfInBounds_toArray, List.set_cons_zero, List.set_cons_succ]; unfold StepOK; go_simp; exact ⟨Below.refl _ _, isV_mk _ _⟩
            apply RunL.pure
            · intro vs w hb hd; have d11 : isV _ (vs 11) w := hd 11 (by decide) (by kernel_rfl); unfold isV at d11; have d12 : isV _ (vs 12) w := hd 12 (by decide) (by kernel_rfl); unfold isV at d12; clear hd; have hx1 := cellB hb Y1.out; simp only [List.take, putL, Act.put, List.setIfInBounds_toArray, List.set_cons_zero, List.set_cons_succ]; unfold StepOK; go_simp; exact ⟨Below.refl _ _, isV_mk _ _⟩
            apply RunL.pure
            · intro vs w hb hd; have d11 : isV _ (vs 11) w := hd 11 (by decide) (by kernel_rfl); unfold isV at d11; have d13 : isV _ (vs 13) w := hd 13 (by decide) (by kernel_rfl); unfold isV at d13; clear hd; simp only [List.take, putL, Act.put, List.setIfInBounds_toArray, List.set_cons_zero, List.set_cons_succ]; unfold StepOK; go_simp; exact ⟨Below.refl _ _, isV_mk _ _⟩
            apply RunL.pure
            · intro vs w hb hd; have d11 : isV _ (vs 11) w := hd 11 (by decide) (by kernel_rfl); unfold isV at d11; have d14 : isV _ (vs 14) w := hd 14 (by decide) (by kernel_rfl); unfold isV at d14; clear hd; simp only [List.take, putL, Act.put, List.setIfInBounds_toArray, List.set_cons_zero, List.set_cons_succ]; unfold StepOK; go_simp; exact ⟨Below.refl _ _, isV_mk _ _⟩
            apply RunL.pure
            · intro vs w hb hd; have d8 : isV _ (vs 8) w := hd 8 (by decide) (by kernel_rfl); unfold isV at d8; have d11 : isV _ (vs 11) w := hd 11 (by decide) (by kernel_rfl); unfold isV at d11; have d15 : isV _ (vs 15) w := hd 15 (by decide) (by kernel_rfl); unfold isV at d15; clear hd; simp only [List.take, putL, Act.put, List.setIfInBounds_toArray, List.set_cons_zero, List.set_cons_succ]; unfold StepOK; go_simp; exact ⟨Below.refl _ _, isV_mk _ _⟩
            apply RunL.pure
            · intro vs w hb hd; have d8 : isV _ (vs 8) w := hd 8 (by decide) (by kernel_rfl); unfold isV at d8; have d16 : isV _ (vs 16) w := hd 16 (by decide) (by kernel_rfl); unfold isV at d16; clear hd; simp only [List.take, putL, Act.put, List.setIfInBounds_toArray, List.set_cons_zero, List.set_cons_succ]; unfold StepOK; go_simp; exact ⟨Below.refl _ _, isV_mk _ _⟩
            intro vs w1 hb hd
            have e0 : isV _ (vs 0) w1 := hd 0 (by decide)
            have e1 := hd 1 (by decide); simp only [TR, Nat.reduceAdd, Nat.reduceSub, List.getD_cons_zero, List.getD_cons_succ] at e1
            have e2 : isV _ (vs 2) w1 := hd 2 (by decide)
            have e3 : isV _ (vs 3) w1 := hd 3 (by decide)
            have e4 : isV _ (vs 4) w1 := hd 4 (by decide)
            have e5 : isV _ (vs 5) w1 := hd 5 (by decide)
            have e6 : isV _ (vs 6) w1 := hd 6 (by decide)
            have e7 : isV _ (vs 7) w1 := hd 7 (by decide)
            have e8 : isV _ (vs 8) w1 := hd 8 (by decide)
            have e9 : isV _ (vs 9) w1 := hd 9 (by decide)
            have e10 : isV _ (vs 10) w1 := hd 10 (by decide)
            have e11 : isV _ (vs 11) w1 := hd 11 (by decide)
            have e12 : isV _ (vs 12) w1 := hd 12 (by decide)
            have e13 : isV _ (vs 13) w1 := hd 13 (by decide)
            have e14 : isV _ (vs 14) w1 := hd 14 (by decide)
            have e15 : isV _ (vs 15) w1 := hd 15 (by decide)
            have e16 : isV _ (vs 16) w1 := hd 16 (by decide)
            have e17 : isV _ (vs 17) w1 := hd 17 (by decide)
            clear hd
            unfold isV at e0 e2 e3 e4 e5 e6 e7 e8 e9 e10 e11 e12 e13 e14 e15 e16 e17
            simp only [putL, Act.put, List.setIfInBounds_toArray, List.set_cons_zero, List.set_cons_succ, e0, e2, e3, e4, e5, e6, e7, e8, e9, e10, e11, e12, e13, e14, e15, e16, e17]
            clear e0 e2 e3 e4 e5 e6 e7 e8 e9 e10 e11 e12 e13 e14 e15 e16 e17
            --@end
            have B6 := Lib.hid (B5.out.trans (hb.mono B5.out.size))
            have OR6 := Lib.hid (Own.below OR5.out hb)
            have k0 := cellB hb Y0.out
            have k1 := cellB hb Y1.out
            have k2 := cellB hb Y2.out
            have k3 := cellB hb Y3.out
            clear hb
            have f0 := World.ownsRow.frozenAt OR6.out 0
            have f1 := World.ownsRow.frozenAt OR6.out 1
            have f2 := World.ownsRow.frozenAt OR6.out 2
            have f3 := World.ownsRow.frozenAt OR6.out 3
            have m0 := World.ownsRow.cellAt OR6.out 0 (by omega)
            have m1 := World.ownsRow.cellAt OR6.out 1 (by omega)
            have m2 := World.ownsRow.cellAt OR6.out 2 (by omega)
            have m3 := World.ownsRow.cellAt OR6.out 3 (by omega)
            simp only [List.getElem?_cons_zero, List.getElem?_cons_succ] at m0 m1 m2 m3
            have Hst := Lib.hid (stored4R OR6.out (.int .i64 room) (.slice A n c) (.int .i64 fuse) (.bool false))
            go_wp2_with fail
            refine bodyPost_ret (results_cell1R rfl _ _ _ ⟨w.heap.size + 1, 0, none⟩ rfl _ (load_own2D Hst.out.1)) rfl ?_
            rw [HE.out]
            exact ⟨A, n, c, es, rfl, R2.kept (held_of_own OR6.out) (HS0.out.below B6.out) Hst.out.2, rfl, wrote2 B6.out Hst.out.2 (by omega)⟩
          · have HE := Lib.hid (show appendD ⟨room, fuse, false, es.map FE.f⟩ nm tb = deedD ⟨room, fuse, false, es.map FE.f⟩ (putF (es.map FE.f) ⟨nm, fb ++ tb, fz⟩ nm) by
              unfold appendD
              rw [if_neg (by simp), if_neg (by rw [HNM.out]; simp), if_neg (fun h => h.elim (by simp only; rw [← HUS.out]; exact g7) (fun h => g8 (by have := h.2; simp only [List.length_map] at this; omega))), HPut.out])
            clear ht
            go_upto_region 6 with fail
            --@region 106 6 r2a6c.spec
            refine wp_region_run (by kernel_rfl) (by kernel_rfl) ?_
            apply RunL.pure
            · intro vs w hb hd; clear hd; have hx0 := cellB hb Y0.out; have hx1 := cellB hb Y1.out; have hx2 := cellB hb Y2.out; have hx3 := cellB hb Y3.out; simp only [List.take, putL, Act.put, List.setIfInBounds_toArray, List.set_cons_zero, List.set_cons_succ]; unfold StepOK; go_simp; exact ⟨Below.refl _ _, isV_mk _ _⟩
            refine RunL.such (isV (.int .i64 (us : Int))) (isV_stable _) ?_ ?_
            · intro vs w hb hd; have d0 : isV _ (vs 0) w := hd 0 (by decide) (by kernel_rfl); unfold isV at d0; clear hd; have hx1 := S5.out.below hb; simp only [List.take, putL, Act.put, List.setIfInBounds_toArray, List.set_cons_zero, List.set_cons_succ]; unfold StepOK; go_simp; exact ⟨Below.refl _ _, such_of_bool (by rw [HUS.out]; exact r2Used_any hx1.sl (by omega) HU.out)⟩
            apply RunL.pure
            · intro vs w hb hd; clear hd; simp only [List.take, putL, Act.put, List.setIfInBounds_toArray, List.set_cons_zero, List.set_cons_succ]; unfold StepOK; go_simp; exact ⟨Below.refl _ _, isV_mk _ _⟩
            apply RunL.pure
            · intro vs w hb hd; have d2 : isV _ (vs 2) w := hd 2 (by decide) (by kernel_rfl); unfold isV at d2; clear hd; simp only [List.take, putL, Act.put, List.setIfInBounds_toArray, List.set_cons_zero, List.set_cons_succ]; unfold StepOK; go_simp; exact ⟨Below.refl _ _, isV_mk _ _⟩
            apply RunL.pure
            · intro vs w hb hd; have d1 := hd 1 (by decide) (by kernel_rfl); simp only [TR, Nat.reduceAdd, Nat.reduceSub, List.getD_cons_zero, List.getD_cons_succ] at d1; have d3 : isV _ (vs 3) w := hd 3 (by decide) (by kernel_rfl); unfold isV at d3; clear hd; unfold isV at d1; have hw := HWU.out; simp only [List.take, putL, Act.put, List.setIfInBounds_toArray, List.set_cons_zero, List.set_cons_succ]; unfold StepOK; go_simp; exact ⟨Below.refl _ _, isV_mk _ _⟩
            apply RunL.pure
            · intro vs w hb hd; clear hd; simp only [List.take, putL, Act.put, List.setIfInBounds_toArray, List.set_cons_zero, List.set_cons_succ]; unfold StepOK; go_simp; exact ⟨Below.refl _ _, isV_mk _ _⟩
            apply RunL.pure
            · intro vs w hb hd; have d5 : isV _ (vs 5) w := hd 5 (by decide) (by kernel_rfl); unfold isV at d5; clear hd; have hx0 := cellB hb Y0.out; simp only [List.take, putL, Act.put, List.setIfInBounds_toArray, List.set_cons_zero, List.set_cons_succ]; unfold StepOK; go_simp; exact ⟨Below.refl _ _, isV_mk _ _⟩
            apply RunL.pure
            · intro vs w hb hd; have d4 : isV _ (vs 4) w := hd 4 (by decide) (by kernel_rfl); unfold isV at d4; have d6 : isV _ (vs 6) w := hd 6 (by decide) (by kernel_rfl); unfold isV at d6; clear hd; have hg := HG7.out; simp only [List.take, putL, Act.put, List.setIfInBounds_toArray, List.set_cons_zero, List.set_cons_succ]; unfold StepOK; go_simp; exact ⟨Below.refl _ _, isV_mk _ _⟩
            apply RunL.pure
            · intro vs w hb hd; have d1 := hd 1 (by decide) (by kernel_rfl); simp only [TR, Nat.reduceAdd, Nat.reduceSub, List.getD_cons_zero, List.getD_cons_succ] at d1; have d7 : isV _ (vs 7) w := hd 7 (by decide) (by kernel_rfl); unfold isV at d7; clear hd; simp only [List.take, putL, Act.put, List.setIfInBounds_toArray, List.set_cons_zero, List.set_cons_succ]; unfold StepOK; go_simp; exact ⟨Below.refl _ _, isV_mk _ _⟩
            apply RunL.pure
            · intro vs w hb hd; have d8 : isV _ (vs 8) w := hd 8 (by decide) (by kernel_rfl); unfold isV at d8; clear hd; simp only [List.take, putL, Act.put, List.setIfInBounds_toArray, List.set_cons_zero, List.set_cons_succ]; unfold StepOK; go_simp; exact ⟨Below.refl _ _, isV_mk _ _⟩
            apply RunL.pure
            · intro vs w hb hd; have d8 : isV _ (vs 8) w := hd 8 (by decide) (by kernel_rfl); unfold isV at d8; have d9 : isV _ (vs 9) w := hd 9 (by decide) (by kernel_rfl); unfold isV at d9; clear hd; simp only [List.take, putL, Act.put, List.setIfInBounds_toArray, List.set_cons_zero, List.set_cons_succ]; unfold StepOK; go_simp; exact ⟨Below.refl _ _, isV_mk _ _⟩
            apply RunL.pure
            · intro vs w hb hd; have d8 : isV _ (vs 8) w := hd 8 (by decide) (by kernel_rfl); unfold isV at d8; have d10 : isV _ (vs 10) w := hd 10 (by decide) (by kernel_rfl); unfold isV at d10; clear hd; simp only [List.take, putL, Act.put, List.setIfInBounds_toArray, List.set_cons_zero, List.set_cons_succ]; unfold StepOK; go_simp; exact ⟨Below.refl _ _, isV_mk _ _⟩
            apply RunL.pure
            · intro vs w hb hd; have d11 : isV _ (vs 11) w := hd 11 (by decide) (by kernel_rfl); unfold isV at d11; clear hd; simp only [List.take, putL, Act.put, List.setIfInBounds_toArray, List.set_cons_zero, List.set_cons_succ]; unfold StepOK; go_simp; exact ⟨Below.refl _ _, isV_mk _ _⟩
            apply RunL.pure
            · intro vs w hb hd; have d11 : isV _ (vs 11) w := hd 11 (by decide) (by kernel_rfl); unfold isV at d11; have d12 : isV _ (vs 12) w := hd 12 (by decide) (by kernel_rfl); unfold isV at d12; clear hd; have hx1 := cellB hb Y1.out; simp only [List.take, putL, Act.put, List.setIfInBounds_toArray, List.set_cons_zero, List.set_cons_succ]; unfold StepOK; go_simp; exact ⟨Below.refl _ _, isV_mk _ _⟩
            apply RunL.pure
            · intro vs w hb hd; have d11 : isV _ (vs 11) w := hd 11 (by decide) (by kernel_rfl); unfold isV at d11; have d13 : isV _ (vs 13) w := hd 13 (by decide) (by kernel_rfl); unfold isV at d13; clear hd; simp only [List.take, putL, Act.put, List.setIfInBounds_toArray, List.set_cons_zero, List.set_cons_succ]; unfold StepOK; go_simp; exact ⟨Below.refl _ _, isV_mk _ _⟩
            apply RunL.pure
            · intro vs w hb hd; have d11 : isV _ (vs 11) w := hd 11 (by decide) (by kernel_rfl); unfold isV at d11; have d14 : isV _ (vs 14) w := hd 14 (by decide) (by kernel_rfl); unfold isV at d14; clear hd; simp only [List.take, putL, Act.put, List.setIfInBounds_toArray, List.set_cons_zero, List.set_cons_succ]; unfold StepOK; go_simp; exact ⟨Below.refl _ _, isV_mk _ _⟩
            apply RunL.pure
            · intro vs w hb hd; have d8 : isV _ (vs 8) w := hd 8 (by decide) (by kernel_rfl); unfold isV at d8; have d11 : isV _ (vs 11) w := hd 11 (by decide) (by kernel_rfl); unfold isV at d11; have d15 : isV _ (vs 15) w := hd 15 (by decide) (by kernel_rfl); unfold isV at d15; clear hd; simp only [List.take, putL, Act.put, List.setIfInBounds_toArray, List.set_cons_zero, List.set_cons_succ]; unfold StepOK; go_simp; exact ⟨Below.refl _ _, isV_mk _ _⟩
            apply RunL.pure
            · intro vs w hb hd; have d8 : isV _ (vs 8) w := hd 8 (by decide) (by kernel_rfl); unfold isV at d8; have d16 : isV _ (vs 16) w := hd 16 (by decide) (by kernel_rfl); unfold isV at d16; clear hd; simp only [List.take, putL, Act.put, List.setIfInBounds_toArray, List.set_cons_zero, List.set_cons_succ]; unfold StepOK; go_simp; exact ⟨Below.refl _ _, isV_mk _ _⟩
            intro vs w1 hb hd
            have e0 : isV _ (vs 0) w1 := hd 0 (by decide)
            have e1 := hd 1 (by decide); simp only [TR, Nat.reduceAdd, Nat.reduceSub, List.getD_cons_zero, List.getD_cons_succ] at e1
            have e2 : isV _ (vs 2) w1 := hd 2 (by decide)
            have e3 : isV _ (vs 3) w1 := hd 3 (by decide)
            have e4 : isV _ (vs 4) w1 := hd 4 (by decide)
            have e5 : isV _ (vs 5) w1 := hd 5 (by decide)
            have e6 : isV _ (vs 6) w1 := hd 6 (by decide)
            have e7 : isV _ (vs 7) w1 := hd 7 (by decide)
            have e8 : isV _ (vs 8) w1 := hd 8 (by decide)
            have e9 : isV _ (vs 9) w1 := hd 9 (by decide)
            have e10 : isV _ (vs 10) w1 := hd 10 (by decide)
            have e11 : isV _ (vs 11) w1 := hd 11 (by decide)
            have e12 : isV _ (vs 12) w1 := hd 12 (by decide)
            have e13 : isV _ (vs 13) w1 := hd 13 (by decide)
            have e14 : isV _ (vs 14) w1 := hd 14 (by decide)
            have e15 : isV _ (vs 15) w1 := hd 15 (by decide)
            have e16 : isV _ (vs 16) w1 := hd 16 (by decide)
            have e17 : isV _ (vs 17) w1 := hd 17 (by decide)
            clear hd
            unfold isV at e0 e2 e3 e4 e5 e6 e7 e8 e9 e10 e11 e12 e13 e14 e15 e16 e17
            simp only [putL, Act.put, List.setIfInBounds_toArray, List.set_cons_zero, List.set_cons_succ, e0, e2, e3, e4, e5, e6, e7, e8, e9, e10, e11, e12, e13, e14, e15, e16, e17]
            clear e0 e2 e3 e4 e5 e6 e7 e8 e9 e10 e11 e12 e13 e14 e15 e16 e17
            --@end
            have B6 := Lib.hid (B5.out.trans (hb.mono B5.out.size))
            have OR6 := Lib.hid (Own.below OR5.out hb)
            have QO6 := Lib.hid (Own.below QO5.out hb)
            have SB6 := Lib.hid (SB5.out.below hb)
            have k0 := cellB hb Y0.out
            have k1 := cellB hb Y1.out
            have k2 := cellB hb Y2.out
            have k3 := cellB hb Y3.out
            clear hb
            have hcb := r2burns_any (w := w1) (room := room) (dark := false) (A := A) (n := n) (c := c) hf
            go_wp2_with fail
            refine hcb.mono ?_; rintro x w7 ⟨rfl, b7⟩
            have B6b := Lib.hid (B6.out.trans (b7.mono B6.out.size))
            have OR6b := Lib.hid (Own.below OR6.out b7)
            have QO6b := Lib.hid (Own.below QO6.out b7)
            have SB6b := Lib.hid (SB6.out.below b7)
            clear hcb k0 k1 k2 k3
            by_cases hz : fuse = 0
            · subst hz
              have HV := Lib.hid (show burnI 0 false = (-1, true, 15) by unfold burnI; rw [if_neg (by omega), if_pos rfl])
              rw [HV.out]
              simp only
              have q0 := box_cellsR w7 [.int .i64 room, .slice A n c, .int .i64 (-1), .bool true] 30 0 _ rfl
              have q1 := box_cellsR w7 [.int .i64 room, .slice A n c, .int .i64 (-1), .bool true] 30 1 _ rfl
              have q2 := box_cellsR w7 [.int .i64 room, .slice A n c, .int .i64 (-1), .bool true] 30 2 _ rfl
              have q3 := box_cellsR w7 [.int .i64 room, .slice A n c, .int .i64 (-1), .bool true] 30 3 _ rfl
              have qb := below_alloc1 w7 (.cells #[.int .i64 room, .slice A n c, .int .i64 (-1), .bool true] 30)
              have qo := new_own w7 [.int .i64 room, .slice A n c, .int .i64 (-1), .bool true] 30 4 rfl (by unfold maxLen; omega)
              go_upto_region 9 with fail
              obtain ⟨w8, hw8⟩ : ∃ w8, w8 = w7.alloc (.cells #[.int .i64 room, .slice A n c, .int .i64 (-1), .bool true] 30) := ⟨_, rfl⟩
              have hTw8 : (w7.alloc (.cells [.int .i64 room, .slice A n c, .int .i64 (-1), .bool true].toArray 30)) = w8 := hw8.symm
              rw [hTw8] at q0 q1 q2 q3 qo
              rw [← hw8] at qb ⊢
              clear hTw8 hw8
              have B8 := Lib.hid (B6b.out.trans (qb.mono B6b.out.size))
              have OR8 := Lib.hid (Own.below OR6b.out qb)
              clear qb qo
              have f0 := World.ownsRow.frozenAt OR8.out 0
              have f1 := World.ownsRow.frozenAt OR8.out 1
              have f2 := World.ownsRow.frozenAt OR8.out 2
              have f3 := World.ownsRow.frozenAt OR8.out 3
              have m0 := World.ownsRow.cellAt OR8.out 0 (by omega)
              have m1 := World.ownsRow.cellAt OR8.out 1 (by omega)
              have m2 := World.ownsRow.cellAt OR8.out 2 (by omega)
              have m3 := World.ownsRow.cellAt OR8.out 3 (by omega)
              simp only [List.getElem?_cons_zero, List.getElem?_cons_succ] at m0 m1 m2 m3
              have Hst := Lib.hid (stored4R OR8.out (.int .i64 room) (.slice A n c) (.int .i64 (-1)) (.bool true))
              go_wp2_with fail
              refine bodyPost_ret (results_cell1R rfl _ _ _ ⟨w.heap.size + 1, 0, none⟩ rfl _ (load_own2D Hst.out.1)) rfl ?_
              rw [HE.out]
              exact ⟨A, n, c, es, rfl, R2.kept (held_of_own OR8.out) (HS0.out.below B8.out) Hst.out.2, rfl, wrote2 B8.out Hst.out.2 (by omega)⟩
            · obtain ⟨fu, hfu⟩ : ∃ fu, fu = (if 0 < fuse then fuse - 1 else fuse) := ⟨_, rfl⟩
              have HV := Lib.hid (show burnI fuse false = (fu, false, 0) by
                unfold burnI
                by_cases h5 : fuse < 0
                · rw [if_pos h5, hfu, if_neg (by omega)]
                · rw [if_neg h5, if_neg hz, hfu, if_pos (by omega)])
              have HD := Lib.hid (show ∀ fs', deedD ⟨room, fuse, false, es.map FE.f⟩ fs' = (0, ⟨room, fu, false, fs'⟩) from fun fs' => by unfold deedD; rw [if_neg hz, hfu])
              rw [HV.out]
              simp only
              clear hfu hz
              have q0 := box_cellsR w7 [.int .i64 room, .slice A n c, .int .i64 fu, .bool false] 30 0 _ rfl
              have q1 := box_cellsR w7 [.int .i64 room, .slice A n c, .int .i64 fu, .bool false] 30 1 _ rfl
              have q2 := box_cellsR w7 [.int .i64 room, .slice A n c, .int .i64 fu, .bool false] 30 2 _ rfl
              have q3 := box_cellsR w7 [.int .i64 room, .slice A n c, .int .i64 fu, .bool false] 30 3 _ rfl
              have qb := below_alloc1 w7 (.cells #[.int .i64 room, .slice A n c, .int .i64 fu, .bool false] 30)
              have qo := new_own w7 [.int .i64 room, .slice A n c, .int .i64 fu, .bool false] 30 4 rfl (by unfold maxLen; omega)
              go_upto_region 9 with fail
              obtain ⟨w8, hw8⟩ : ∃ w8, w8 = w7.alloc (.cells #[.int .i64 room, .slice A n c, .int .i64 fu, .bool false] 30) := ⟨_, rfl⟩
              have hTw8 : (w7.alloc (.cells [.int .i64 room, .slice A n c, .int .i64 fu, .bool false].toArray 30)) = w8 := hw8.symm
              rw [hTw8] at q0 q1 q2 q3 qo
              rw [← hw8] at qb ⊢
              clear hTw8 hw8
              have B7 := Lib.hid (B6b.out.trans (qb.mono B6b.out.size))
              have OR7 := Lib.hid (Own.below OR6b.out qb)
              have QO7 := Lib.hid (Own.below QO6b.out qb)
              have SB7 := Lib.hid (SB6b.out.below qb)
              have X1 := Lib.hid (World.ownsRow.cellAt QO7.out 1 (by omega))
              have X2 := Lib.hid (World.ownsRow.cellAt QO7.out 2 (by omega))
              simp only [List.getElem?_cons_zero, List.getElem?_cons_succ] at X1 X2
              have Z0 := Lib.hid q0
              have Z1 := Lib.hid q1
              have Z2 := Lib.hid q2
              have Z3 := Lib.hid q3
              obtain ⟨L, hL⟩ : ∃ L, fb ++ tb = L := ⟨_, rfl⟩
              rw [hL] at HE
              have HL := Lib.hid hL
              clear hL qb qo q0 q1 q2 q3 b7
              go_upto_region 11 with fail
              --@region 106 11 r2a11.spec
              refine wp_region_tail 11 (by kernel_rfl) (by kernel_rfl) (by kernel_rfl) ?_
              apply RunT.pure
              · intro vs w hb hd; clear hd; have hx0 := cellB hb Z0.out; have hx1 := cellB hb Z1.out; have hx2 := cellB hb Z2.out; have hx3 := cellB hb Z3.out; simp only [List.take, putL, Act.put, List.setIfInBounds_toArray, List.set_cons_zero, List.set_cons_succ]; unfold StepOK; go_simp; exact ⟨Below.refl _ _, isV_mk _ _⟩
              apply RunT.pure
              · intro vs w hb hd; clear hd; simp only [List.take, putL, Act.put, List.setIfInBounds_toArray, List.set_cons_zero, List.set_cons_succ]; unfold StepOK; go_simp; exact ⟨Below.refl _ _, isV_mk _ _⟩
              apply RunT.pure
              · intro vs w hb hd; clear hd; simp only [List.take, putL, Act.put, List.setIfInBounds_toArray, List.set_cons_zero, List.set_cons_succ]; unfold StepOK; go_simp; exact ⟨Below.refl _ _, isV_mk _ _⟩
              apply RunT.pure
              · intro vs w hb hd; have d2 : isV _ (vs 2) w := hd 2 (by decide) (by kernel_rfl); unfold isV at d2; clear hd; have hx1 := cellB hb X1.out; simp only [List.take, putL, Act.put, List.setIfInBounds_toArray, List.set_cons_zero, List.set_cons_succ]; unfold StepOK; go_simp; exact ⟨Below.refl _ _, isV_mk _ _⟩
              apply RunT.pure
              · intro vs w hb hd; clear hd; simp only [List.take, putL, Act.put, List.setIfInBounds_toArray, List.set_cons_zero, List.set_cons_succ]; unfold StepOK; go_simp; exact ⟨Below.refl _ _, isV_mk _ _⟩
              refine RunT.such (isTx G L) (isTx_st _ _) ?_ ?_
              · intro vs w hb hd; have d3 : isV _ (vs 3) w := hd 3 (by decide) (by kernel_rfl); unfold isV at d3; have d4 : isV _ (vs 4) w := hd 4 (by decide) (by kernel_rfl); unfold isV at d4; clear hd; have hx2 := SB7.out.below hb; have hx4 := (HTB.out.below B7.out).below hb; simp only [List.take, putL, Act.put, List.setIfInBounds_toArray, List.set_cons_zero, List.set_cons_succ]; unfold StepOK; go_simp; exact ⟨Below.refl _ _, (text_such (G := G) (l := fb) (b := tb) (fun q hq => HG.out q (by have := B7.out.size; have := hb.size; omega)) hx2 hx4 (by have := HLen.out; omega) (by omega)).mono (fun e w' ⟨v, h1, h2, h3⟩ => ⟨v, h1, h2, by rw [← HL.out]; exact h3⟩)⟩
              apply RunT.pure
              · intro vs w hb hd; clear hd; simp only [List.take, putL, Act.put, List.setIfInBounds_toArray, List.set_cons_zero, List.set_cons_succ]; unfold StepOK; go_simp; exact ⟨Below.refl _ _, isV_mk _ _⟩
              apply RunT.pure
              · intro vs w hb hd; have d6 : isV _ (vs 6) w := hd 6 (by decide) (by kernel_rfl); unfold isV at d6; clear hd; have hx3 := cellB hb X2.out; simp only [List.take, putL, Act.put, List.setIfInBounds_toArray, List.set_cons_zero, List.set_cons_succ]; unfold StepOK; go_simp; exact ⟨Below.refl _ _, isV_mk _ _⟩
              refine RunT.such (isFl2 G nm L (fz : Int)) (isFl2_st _ _ _ _) ?_ ?_
              · intro vs w hb hd; have d1 : isV _ (vs 1) w := hd 1 (by decide) (by kernel_rfl); unfold isV at d1; have d5 := hd 5 (by decide) (by kernel_rfl); simp only [TR, Nat.reduceAdd, Nat.reduceSub, List.getD_cons_zero, List.getD_cons_succ] at d5; have d7 : isV _ (vs 7) w := hd 7 (by decide) (by kernel_rfl); unfold isV at d7; clear hd; obtain ⟨A6, c6, e6, s6, l6⟩ := d5; simp only [List.take, putL, Act.put, List.setIfInBounds_toArray, List.set_cons_zero, List.set_cons_succ]; unfold StepOK; go_simp; exact ⟨Below.refl _ _, A6, c6, rfl, s6, l6⟩
              apply RunT.pure
              · intro vs w hb hd; clear hd; simp only [List.take, putL, Act.put, List.setIfInBounds_toArray, List.set_cons_zero, List.set_cons_succ]; unfold StepOK; go_simp; exact ⟨Below.refl _ _, isV_mk _ _⟩
              refine RunT.such (isPut G room fu (putF (es.map FE.f) ⟨nm, L, fz⟩ nm)) (isPut_st _ _ _ _) ?_ ?_
              · intro vs w hb hd; have d0 : isV _ (vs 0) w := hd 0 (by decide) (by kernel_rfl); unfold isV at d0; have d5 := hd 5 (by decide) (by kernel_rfl); simp only [TR, Nat.reduceAdd, Nat.reduceSub, List.getD_cons_zero, List.getD_cons_succ] at d5; have d8 := hd 8 (by decide) (by kernel_rfl); simp only [TR, Nat.reduceAdd, Nat.reduceSub, List.getD_cons_zero, List.getD_cons_succ] at d8; have d9 : isV _ (vs 9) w := hd 9 (by decide) (by kernel_rfl); unfold isV at d9; clear hd; obtain ⟨A6, c6, e8, s6, l6⟩ := d8; simp only [List.take, putL, Act.put, List.setIfInBounds_toArray, List.set_cons_zero, List.set_cons_succ]; unfold StepOK; go_simp; exact ⟨Below.refl _ _, put_such (fun q hq => HG.out q (by have := B7.out.size; have := hb.size; omega)) ((HS0.out.below B7.out).below hb) hn nm nm A6 L c6 fz s6 (fun hne a ha => l6 a ha)⟩
              intro vs w1 hb hd
              have e0 : isV _ (vs 0) w1 := hd 0 (by decide)
              have e1 : isV _ (vs 1) w1 := hd 1 (by decide)
              have e2 : isV _ (vs 2) w1 := hd 2 (by decide)
              have e3 : isV _ (vs 3) w1 := hd 3 (by decide)
              have e4 : isV _ (vs 4) w1 := hd 4 (by decide)
              have e5 := hd 5 (by decide); simp only [TR, Nat.reduceAdd, Nat.reduceSub, List.getD_cons_zero, List.getD_cons_succ] at e5
              have e6 : isV _ (vs 6) w1 := hd 6 (by decide)
              have e7 : isV _ (vs 7) w1 := hd 7 (by decide)
              have e8 := hd 8 (by decide); simp only [TR, Nat.reduceAdd, Nat.reduceSub, List.getD_cons_zero, List.getD_cons_succ] at e8
              have e9 : isV _ (vs 9) w1 := hd 9 (by decide)
              have e10 := hd 10 (by decide); simp only [TR, Nat.reduceAdd, Nat.reduceSub, List.getD_cons_zero, List.getD_cons_succ] at e10
              clear hd
              unfold isV at e0 e1 e2 e3 e4 e6 e7 e9
              simp only [List.drop_succ_cons, List.drop_zero, List.take_succ_cons, List.take_zero]
              simp only [putL, Act.put, List.setIfInBounds_toArray, List.set_cons_zero, List.set_cons_succ, e0, e1, e2, e3, e4, e6, e7, e9]
              clear e0 e1 e2 e3 e4 e6 e7 e9
              --@end
              obtain ⟨A9, n9, c9, es9, e10, r9, hm9⟩ := e10
              simp only [Nat.reduceAdd, e10]
              have B9 := Lib.hid (B7.out.trans (hb.mono B7.out.size))
              have OR9 := Lib.hid (Own.below OR7.out hb)
              have R9 := Lib.hid r9
              have HM9 := Lib.hid hm9
              clear e10 hb r9 hm9
              have f0 := World.ownsRow.frozenAt OR9.out 0
              have f1 := World.ownsRow.frozenAt OR9.out 1
              have f2 := World.ownsRow.frozenAt OR9.out 2
              have f3 := World.ownsRow.frozenAt OR9.out 3
              have m0 := World.ownsRow.cellAt OR9.out 0 (by omega)
              have m1 := World.ownsRow.cellAt OR9.out 1 (by omega)
              have m2 := World.ownsRow.cellAt OR9.out 2 (by omega)
              have m3 := World.ownsRow.cellAt OR9.out 3 (by omega)
              simp only [List.getElem?_cons_zero, List.getElem?_cons_succ] at m0 m1 m2 m3
              have Hst := Lib.hid (stored4R OR9.out (.int .i64 room) (.slice A9 n9 c9) (.int .i64 fu) (.bool false))
              go_wp2_with fail
              refine bodyPost_ret (results_cell1R rfl _ _ _ ⟨w.heap.size + 1, 0, none⟩ rfl _ (load_own2D Hst.out.1)) rfl ?_
              rw [HE.out, HD.out]
              exact ⟨A9, n9, c9, es9, rfl, R2.kept (held_of_own OR9.out) R9.out Hst.out.2, HM9.out, wrote2 B9.out Hst.out.2 (by omega)⟩
end
end Go.Proofs.YtemegkapmgcffaaGreat
