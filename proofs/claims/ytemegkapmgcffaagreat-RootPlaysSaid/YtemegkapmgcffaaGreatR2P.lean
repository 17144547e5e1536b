import Derived.Test.YtemegkapmgcffaaGreatR2A
import Derived.Test.YtemegkapmgcffaaGreatPureLeaves
/- The document's disk and the program's: sameFile, SameDisk. -/
namespace Go.Proofs.YtemegkapmgcffaaGreat
open Go.RowKit
set_option linter.unusedSimpArgs false
set_option linter.unusedVariables false

section
variable {w : World} {base p : Nat} {D : Dk} {F : Nat → Prop} {room fuse : Int} {A : Option Addr} {n c : Nat} {es : List FE}
set_option maxRecDepth 100000 in
set_option maxHeartbeats 8000000 in
theorem sameFile_any (h : DkIs w base p D F) (hs : Sl w 3 A n c (flatFE es)) (hok : ∀ e, e ∈ es → Sl w 1 e.A e.f.b.length e.c (bytesV e.f.b)) (heq : es.map FE.f = D.fs) (k : Nat) (hk : k < n) :
    Calls Tryz.prog 62 #[.pointer (some ⟨p, 0, none⟩), .agg #[.int .i64 room, .slice A n c, .int .i64 fuse, .bool D.dark], .int .i64 (k : Int)] w fun x w' => x = .returned (.bool true) ∧ Below w.heap.size w w' := by
  obtain ⟨dk, hdk⟩ : ∃ dk, dk = D.dark := ⟨_, rfl⟩
  rw [← hdk]
  have HDK := Lib.hid hdk
  clear hdk
  have hb1 := below_alloc1 w (.cells #[.int .i64 room, .slice A n c, .int .i64 fuse, .bool dk] 30)
  have k1 := box_cellsR w [.int .i64 room, .slice A n c, .int .i64 fuse, .bool dk] 30 1 _ rfl
  have k3 := box_cellsR w [.int .i64 room, .slice A n c, .int .i64 fuse, .bool dk] 30 3 _ rfl
  obtain ⟨w1, hw1⟩ : ∃ w1, w1 = w.alloc (.cells #[.int .i64 room, .slice A n c, .int .i64 fuse, .bool dk] 30) := ⟨_, rfl⟩
  have hT1 : (w.alloc (.cells [.int .i64 room, .slice A n c, .int .i64 fuse, .bool dk].toArray 30)) = w1 := hw1.symm
  rw [hT1] at k1 k3
  rw [← hw1] at hb1
  have eW : w.alloc (.cells #[.int .i64 room, .slice A n c, .int .i64 fuse, .bool dk] 30) = w1 := hw1.symm
  have HB := Lib.hid hb1
  have hln := slFE_len hs
  have hss := hs.below hb1
  obtain ⟨e, he⟩ := get_some es k (by omega)
  obtain ⟨f, hf⟩ : ∃ f, f = e.f := ⟨_, rfl⟩
  have hfk : D.fs[k]? = some f := by rw [← heq, List.getElem?_map, he, hf]; rfl
  have HL := Lib.hid (look_own (D := D) h.good.srt hfk)
  have HRd := Lib.hid (show dk = false → readD D f.nm = (f.b, 0) from fun hd => read_own h.good.srt (by rw [← HDK.out]; exact hd) hfk)
  have HRn := Lib.hid (show dk = true → readD D f.nm = ([], 15) from fun hd => by unfold readD; rw [if_pos (by rw [← HDK.out]; exact hd)])
  obtain ⟨ad, rfl⟩ := slFE_addr hss he
  obtain ⟨y0, y1, y2⟩ := slFE_three hss he
  rw [← hf] at y0 y1 y2
  have HSb := Lib.hid (show Sl w1 1 e.A f.b.length e.c (bytesV f.b) by rw [hf]; exact (hok e (List.mem_of_getElem? he)).below hb1)
  obtain ⟨eA, heA⟩ : ∃ eA, eA = e.A := ⟨_, rfl⟩
  obtain ⟨ec, hec⟩ : ∃ ec, ec = e.c := ⟨_, rfl⟩
  rw [← heA, ← hec] at HSb
  rw [← heA, ← hec] at y1
  have HD := Lib.hid h
  have hin : (0 : Int) ≤ (k : Int) ∧ (k : Int) < (n : Int) := by omega
  have K3 := Lib.hid k3
  clear hs hok heq hss he hf hfk heA hec h hw1 hT1 hb1 k3
  have hb2 := below_alloc1 w1 (.cells #[.string (bstr f.nm), .slice eA f.b.length ec, .int .i64 f.safe] 82)
  have q0 := box_cellsR w1 [.string (bstr f.nm), .slice eA f.b.length ec, .int .i64 f.safe] 82 0 _ rfl
  have q1 := box_cellsR w1 [.string (bstr f.nm), .slice eA f.b.length ec, .int .i64 f.safe] 82 1 _ rfl
  have q2 := box_cellsR w1 [.string (bstr f.nm), .slice eA f.b.length ec, .int .i64 f.safe] 82 2 _ rfl
  go_enter Tryz.func62, Tryz.ntmps62
  go_upto_region 1 with fail
  clear eW
  go_upto_region 2 with fail
  obtain ⟨w2, hw2⟩ : ∃ w2, w2 = w1.alloc (.cells #[.string (bstr f.nm), .slice eA f.b.length ec, .int .i64 f.safe] 82) := ⟨_, rfl⟩
  have hT2 : (w1.alloc (.cells [.string (bstr f.nm), .slice eA f.b.length ec, .int .i64 f.safe].toArray 82)) = w2 := hw2.symm
  rw [hT2] at q0 q1 q2
  rw [← hw2] at hb2 ⊢
  have HB2 := Lib.hid (HB.out.trans (hb2.mono HB.out.size))
  have K3b := Lib.hid (cellB hb2 K3.out)
  have HSb2 := Lib.hid (HSb.out.below hb2)
  have Q0 := Lib.hid q0
  have Q1 := Lib.hid q1
  have Q2 := Lib.hid q2
  clear hw2 hT2 hb2 q0 q1 q2 y0 y1 y2 k1 K3 HSb hin
  --@region 114 2 sf2.spec
  refine wp_region_run (by kernel_rfl) (by kernel_rfl) ?_
  apply RunL.pure
  · intro vs w hb hd; clear hd; simp only [List.take, putL, Act.put, List.setIfInBounds_toArray, List.set_cons_zero, List.set_cons_succ]; unfold StepOK; go_simp; exact ⟨Below.refl _ _, isV_mk _ _⟩
  apply RunL.pure
  · intro vs w hb hd; clear hd; simp only [List.take, putL, Act.put, List.setIfInBounds_toArray, List.set_cons_zero, List.set_cons_succ]; unfold StepOK; go_simp; exact ⟨Below.refl _ _, isV_mk _ _⟩
  apply RunL.pure
  · intro vs w hb hd; have d1 : isV _ (vs 1) w := hd 1 (by decide) (by kernel_rfl); unfold isV at d1; clear hd; have hx := cellB hb Q0.out; simp only [List.take, putL, Act.put, List.setIfInBounds_toArray, List.set_cons_zero, List.set_cons_succ]; unfold StepOK; go_simp; exact ⟨Below.refl _ _, isV_mk _ _⟩
  refine RunL.such (isV (.int .i64 (f.b.length : Int))) (isV_stable _) ?_ ?_
  · intro vs w hb hd; have d0 : isV _ (vs 0) w := hd 0 (by decide) (by kernel_rfl); unfold isV at d0; have d2 : isV _ (vs 2) w := hd 2 (by decide) (by kernel_rfl); unfold isV at d2; clear hd; have hd := HD.out.below (HB2.out.trans (hb.mono HB2.out.size)); simp only [List.take, putL, Act.put, List.setIfInBounds_toArray, List.set_cons_zero, List.set_cons_succ]; unfold StepOK; go_simp; exact ⟨Below.refl _ _, such_of_bool ((Size_any hd f.nm).mono (fun e w' ⟨h1, h2⟩ => ⟨by rw [h1, HL.out], h2⟩))⟩
  apply RunL.pure
  · intro vs w hb hd; clear hd; simp only [List.take, putL, Act.put, List.setIfInBounds_toArray, List.set_cons_zero, List.set_cons_succ]; unfold StepOK; go_simp; exact ⟨Below.refl _ _, isV_mk _ _⟩
  apply RunL.pure
  · intro vs w hb hd; have d4 : isV _ (vs 4) w := hd 4 (by decide) (by kernel_rfl); unfold isV at d4; clear hd; have hx := cellB hb Q1.out; simp only [List.take, putL, Act.put, List.setIfInBounds_toArray, List.set_cons_zero, List.set_cons_succ]; unfold StepOK; go_simp; exact ⟨Below.refl _ _, isV_mk _ _⟩
  apply RunL.pure
  · intro vs w hb hd; have d5 : isV _ (vs 5) w := hd 5 (by decide) (by kernel_rfl); unfold isV at d5; clear hd; simp only [List.take, putL, Act.put, List.setIfInBounds_toArray, List.set_cons_zero, List.set_cons_succ]; unfold StepOK; go_simp; exact ⟨Below.refl _ _, isV_mk _ _⟩
  apply RunL.pure
  · intro vs w hb hd; have d3 := hd 3 (by decide) (by kernel_rfl); simp only [TR, Nat.reduceAdd, Nat.reduceSub, List.getD_cons_zero, List.getD_cons_succ] at d3; have d6 : isV _ (vs 6) w := hd 6 (by decide) (by kernel_rfl); unfold isV at d6; clear hd; unfold isV at d3; simp only [List.take, putL, Act.put, List.setIfInBounds_toArray, List.set_cons_zero, List.set_cons_succ]; unfold StepOK; go_simp; exact ⟨Below.refl _ _, isV_mk _ _⟩
  apply RunL.pure
  · intro vs w hb hd; have d3 := hd 3 (by decide) (by kernel_rfl); simp only [TR, Nat.reduceAdd, Nat.reduceSub, List.getD_cons_zero, List.getD_cons_succ] at d3; have d7 : isV _ (vs 7) w := hd 7 (by decide) (by kernel_rfl); unfold isV at d7; clear hd; simp only [List.take, putL, Act.put, List.setIfInBounds_toArray, List.set_cons_zero, List.set_cons_succ]; unfold StepOK; go_simp; exact ⟨Below.refl _ _, isV_mk _ _⟩
  apply RunL.pure
  · intro vs w hb hd; have d8 : isV _ (vs 8) w := hd 8 (by decide) (by kernel_rfl); unfold isV at d8; clear hd; simp only [List.take, putL, Act.put, List.setIfInBounds_toArray, List.set_cons_zero, List.set_cons_succ]; unfold StepOK; go_simp; exact ⟨Below.refl _ _, isV_mk _ _⟩
  apply RunL.pure
  · intro vs w hb hd; have d8 : isV _ (vs 8) w := hd 8 (by decide) (by kernel_rfl); unfold isV at d8; clear hd; simp only [List.take, putL, Act.put, List.setIfInBounds_toArray, List.set_cons_zero, List.set_cons_succ]; unfold StepOK; go_simp; exact ⟨Below.refl _ _, isV_mk _ _⟩
  apply RunL.pure
  · intro vs w hb hd; have d8 : isV _ (vs 8) w := hd 8 (by decide) (by kernel_rfl); unfold isV at d8; have d10 : isV _ (vs 10) w := hd 10 (by decide) (by kernel_rfl); unfold isV at d10; clear hd; have hx := cellB hb Q0.out; simp only [List.take, putL, Act.put, List.setIfInBounds_toArray, List.set_cons_zero, List.set_cons_succ]; unfold StepOK; go_simp; exact ⟨Below.refl _ _, isV_mk _ _⟩
  refine RunL.such (isV (.int .i64 (f.safe : Int))) (isV_stable _) ?_ ?_
  · intro vs w hb hd; have d8 : isV _ (vs 8) w := hd 8 (by decide) (by kernel_rfl); unfold isV at d8; have d9 : isV _ (vs 9) w := hd 9 (by decide) (by kernel_rfl); unfold isV at d9; have d11 : isV _ (vs 11) w := hd 11 (by decide) (by kernel_rfl); unfold isV at d11; clear hd; have hd := HD.out.below (HB2.out.trans (hb.mono HB2.out.size)); simp only [List.take, putL, Act.put, List.setIfInBounds_toArray, List.set_cons_zero, List.set_cons_succ]; unfold StepOK; go_simp; exact ⟨Below.refl _ _, such_of_bool ((Synced_any hd f.nm).mono (fun e w' ⟨h1, h2⟩ => ⟨by rw [h1, HL.out], h2⟩))⟩
  apply RunL.pure
  · intro vs w hb hd; have d8 : isV _ (vs 8) w := hd 8 (by decide) (by kernel_rfl); unfold isV at d8; clear hd; simp only [List.take, putL, Act.put, List.setIfInBounds_toArray, List.set_cons_zero, List.set_cons_succ]; unfold StepOK; go_simp; exact ⟨Below.refl _ _, isV_mk _ _⟩
  apply RunL.pure
  · intro vs w hb hd; have d8 : isV _ (vs 8) w := hd 8 (by decide) (by kernel_rfl); unfold isV at d8; have d13 : isV _ (vs 13) w := hd 13 (by decide) (by kernel_rfl); unfold isV at d13; clear hd; have hx := cellB hb Q2.out; simp only [List.take, putL, Act.put, List.setIfInBounds_toArray, List.set_cons_zero, List.set_cons_succ]; unfold StepOK; go_simp; exact ⟨Below.refl _ _, isV_mk _ _⟩
  apply RunL.pure
  · intro vs w hb hd; have d8 : isV _ (vs 8) w := hd 8 (by decide) (by kernel_rfl); unfold isV at d8; have d12 := hd 12 (by decide) (by kernel_rfl); simp only [TR, Nat.reduceAdd, Nat.reduceSub, List.getD_cons_zero, List.getD_cons_succ] at d12; have d14 : isV _ (vs 14) w := hd 14 (by decide) (by kernel_rfl); unfold isV at d14; clear hd; unfold isV at d12; simp only [List.take, putL, Act.put, List.setIfInBounds_toArray, List.set_cons_zero, List.set_cons_succ]; unfold StepOK; go_simp; exact ⟨Below.refl _ _, isV_mk _ _⟩
  apply RunL.pure
  · intro vs w hb hd; have d8 : isV _ (vs 8) w := hd 8 (by decide) (by kernel_rfl); unfold isV at d8; have d15 : isV _ (vs 15) w := hd 15 (by decide) (by kernel_rfl); unfold isV at d15; clear hd; simp only [List.take, putL, Act.put, List.setIfInBounds_toArray, List.set_cons_zero, List.set_cons_succ]; unfold StepOK; go_simp; exact ⟨Below.refl _ _, isV_mk _ _⟩
  intro vs w1 hb hd
  have e0 : isV _ (vs 0) w1 := hd 0 (by decide)
  have e1 : isV _ (vs 1) w1 := hd 1 (by decide)
  have e2 : isV _ (vs 2) w1 := hd 2 (by decide)
  have e3 := hd 3 (by decide); simp only [TR, Nat.reduceAdd, Nat.reduceSub, List.getD_cons_zero, List.getD_cons_succ] at e3
  have e4 : isV _ (vs 4) w1 := hd 4 (by decide)
  have e5 : isV _ (vs 5) w1 := hd 5 (by decide)
  have e6 : isV _ (vs 6) w1 := hd 6 (by decide)
  have e7 : isV _ (vs 7) w1 := hd 7 (by decide)
  have e8 : isV _ (vs 8) w1 := hd 8 (by decide)
  have e9 : isV _ (vs 9) w1 := hd 9 (by decide)
  have e10 : isV _ (vs 10) w1 := hd 10 (by decide)
  have e11 : isV _ (vs 11) w1 := hd 11 (by decide)
  have e12 := hd 12 (by decide); simp only [TR, Nat.reduceAdd, Nat.reduceSub, List.getD_cons_zero, List.getD_cons_succ] at e12
  have e13 : isV _ (vs 13) w1 := hd 13 (by decide)
  have e14 : isV _ (vs 14) w1 := hd 14 (by decide)
  have e15 : isV _ (vs 15) w1 := hd 15 (by decide)
  have e16 : isV _ (vs 16) w1 := hd 16 (by decide)
  clear hd
  unfold isV at e0 e1 e2 e4 e5 e6 e7 e8 e9 e10 e11 e13 e14 e15 e16
  simp only [putL, Act.put, List.setIfInBounds_toArray, List.set_cons_zero, List.set_cons_succ, e0, e1, e2, e4, e5, e6, e7, e8, e9, e10, e11, e13, e14, e15, e16]
  clear e0 e1 e2 e4 e5 e6 e7 e8 e9 e10 e11 e13 e14 e15 e16
  --@end
  have HB3 := Lib.hid (HB2.out.trans (hb.mono HB2.out.size))
  have k3 := cellB hb K3b.out
  have q0 := cellB hb Q0.out
  have q1 := cellB hb Q1.out
  have HSb3 := Lib.hid (HSb2.out.below hb)
  clear hb K3b Q0 Q1 Q2 HSb2
  have K3 := Lib.hid k3
  have Q1 := Lib.hid q1
  clear k3 q1
  have hc := Read_any (HD.out.below HB3.out) f.nm
  cases dk with
  | true =>
    rw [HRn.out rfl] at hc
    go_wp2_with fail
    refine hc.mono ?_; rintro x w4 ⟨A5, c5, rfl, ho, hb4⟩
    have HB4 := Lib.hid (HB3.out.trans (hb4.mono HB3.out.size))
    have k3 := cellB hb4 K3.out
    clear hc hb4 ho
    go_wp2_with fail
    go_ret
    exact ⟨rfl, HB4.out⟩
  | false =>
    rw [HRd.out rfl] at hc
    go_wp2_with fail
    refine hc.mono ?_; rintro x w4 ⟨A5, c5, rfl, ho, hb4⟩
    have HB4 := Lib.hid (HB3.out.trans (hb4.mono HB3.out.size))
    have k3 := cellB hb4 K3.out
    have q1 := cellB hb4 Q1.out
    have hcs := sameBytes_any A5 eA f.b.length c5 f.b.length ec f.b f.b w4 ho.sl (HSb3.out.below hb4)
    clear hc hb4 ho
    go_wp2_with fail
    refine hcs.mono ?_; rintro x w5 ⟨rfl, rfl⟩
    clear hcs
    have hbb : (f.b == f.b) = true := by simp
    rw [hbb]
    go_wp2_with fail
    go_ret
    exact ⟨rfl, HB4.out⟩
set_option maxRecDepth 100000 in
set_option maxHeartbeats 8000000 in
theorem sameDisk_any (h : DkIs w base p D F) (hs : Sl w 3 A n c (flatFE es)) (hok : ∀ e, e ∈ es → Sl w 1 e.A e.f.b.length e.c (bytesV e.f.b)) (heq : es.map FE.f = D.fs) :
    Calls Tryz.prog 21 #[.pointer (some ⟨p, 0, none⟩), .agg #[.int .i64 room, .slice A n c, .int .i64 fuse, .bool D.dark]] w fun x w' => x = .returned (.bool true) ∧ Below w.heap.size w w' := by
  have hcf := fun (w' : World) (hb : Below w.heap.size w w') (k : Nat) (hk : k < n) => sameFile_any (room := room) (fuse := fuse) (h.below hb) (hs.below hb) (fun e he => (hok e he).below hb) heq k hk
  obtain ⟨dk, hdk⟩ : ∃ dk, dk = D.dark := ⟨_, rfl⟩
  rw [← hdk] at hcf ⊢
  have HCF := Lib.hid hcf
  have HDK := Lib.hid hdk.symm
  clear hdk hcf
  have hb1 := below_alloc1 w (.cells #[.int .i64 room, .slice A n c, .int .i64 fuse, .bool dk] 30)
  have k0 := box_cellsR w [.int .i64 room, .slice A n c, .int .i64 fuse, .bool dk] 30 0 _ rfl
  have k1 := box_cellsR w [.int .i64 room, .slice A n c, .int .i64 fuse, .bool dk] 30 1 _ rfl
  have k2 := box_cellsR w [.int .i64 room, .slice A n c, .int .i64 fuse, .bool dk] 30 2 _ rfl
  have k3 := box_cellsR w [.int .i64 room, .slice A n c, .int .i64 fuse, .bool dk] 30 3 _ rfl
  obtain ⟨w1, hw1⟩ : ∃ w1, w1 = w.alloc (.cells #[.int .i64 room, .slice A n c, .int .i64 fuse, .bool dk] 30) := ⟨_, rfl⟩
  have hT1 : (w.alloc (.cells [.int .i64 room, .slice A n c, .int .i64 fuse, .bool dk].toArray 30)) = w1 := hw1.symm
  rw [hT1] at k0 k1 k2 k3
  rw [← hw1] at hb1
  have eW : w.alloc (.cells #[.int .i64 room, .slice A n c, .int .i64 fuse, .bool dk] 30) = w1 := hw1.symm
  have HB := Lib.hid hb1
  have hln := slFE_len hs
  have HS := Lib.hid (hs.below hb1)
  have HEq := Lib.hid heq
  have hnl : D.fs.length = n := by rw [← heq, List.length_map, hln]
  have hn200 : n ≤ 200 := by rw [← hnl]; exact h.good.few
  obtain ⟨u, hu⟩ : ∃ u, usedF D.fs = u := ⟨_, rfl⟩
  have HU1 := Lib.hid hu
  have HU2 := Lib.hid (show usedF (es.map FE.f) = u by rw [heq]; exact hu)
  have HU3 := Lib.hid (show usedF (es.map FE.f) ≤ 16777216 by rw [heq]; have h1 := h.good.used; have h2 := h.good.room; omega)
  have HD := Lib.hid h
  have K0 := Lib.hid k0
  have K1 := Lib.hid k1
  have K2 := Lib.hid k2
  have K3 := Lib.hid k3
  have HNL := Lib.hid hnl
  clear hs hok heq h hw1 hT1 hb1 k0 k1 k2 k3 hu hnl
  go_enter Tryz.func21, Tryz.ntmps21
  go_upto_region 1 with fail
  clear eW
  --@region 55 1 sd1.spec
  refine wp_region_run (by kernel_rfl) (by kernel_rfl) ?_
  apply RunL.pure
  · intro vs w hb hd; clear hd; simp only [List.take, putL, Act.put, List.setIfInBounds_toArray, List.set_cons_zero, List.set_cons_succ]; unfold StepOK; go_simp; exact ⟨Below.refl _ _, isV_mk _ _⟩
  refine RunL.such (isV (.int .i64 (u : Int))) (isV_stable _) ?_ ?_
  · intro vs w hb hd; have d0 : isV _ (vs 0) w := hd 0 (by decide) (by kernel_rfl); unfold isV at d0; clear hd; have hd := HD.out.below (HB.out.trans (hb.mono HB.out.size)); simp only [List.take, putL, Act.put, List.setIfInBounds_toArray, List.set_cons_zero, List.set_cons_succ]; unfold StepOK; go_simp; exact ⟨Below.refl _ _, such_of_bool ((Used_any hd).mono (fun e w' ⟨h1, h2⟩ => ⟨by rw [h1, HU1.out], h2⟩))⟩
  apply RunL.pure
  · intro vs w hb hd; clear hd; have hx0 := cellB hb K0.out; have hx1 := cellB hb K1.out; have hx2 := cellB hb K2.out; have hx3 := cellB hb K3.out; simp only [List.take, putL, Act.put, List.setIfInBounds_toArray, List.set_cons_zero, List.set_cons_succ]; unfold StepOK; go_simp; exact ⟨Below.refl _ _, isV_mk _ _⟩
  refine RunL.such (isV (.int .i64 (u : Int))) (isV_stable _) ?_ ?_
  · intro vs w hb hd; have d1 := hd 1 (by decide) (by kernel_rfl); simp only [TR, Nat.reduceAdd, Nat.reduceSub, List.getD_cons_zero, List.getD_cons_succ] at d1; have d2 : isV _ (vs 2) w := hd 2 (by decide) (by kernel_rfl); unfold isV at d2; clear hd; simp only [List.take, putL, Act.put, List.setIfInBounds_toArray, List.set_cons_zero, List.set_cons_succ]; unfold StepOK; go_simp; exact ⟨Below.refl _ _, such_of_bool ((r2Used_any (room := room) (fuse := fuse) (dark := dk) (HS.out.below hb) (by omega) HU3.out).mono (fun e w' ⟨h1, h2⟩ => ⟨by rw [h1, HU2.out], h2⟩))⟩
  apply RunL.pure
  · intro vs w hb hd; have d1 := hd 1 (by decide) (by kernel_rfl); simp only [TR, Nat.reduceAdd, Nat.reduceSub, List.getD_cons_zero, List.getD_cons_succ] at d1; have d3 := hd 3 (by decide) (by kernel_rfl); simp only [TR, Nat.reduceAdd, Nat.reduceSub, List.getD_cons_zero, List.getD_cons_succ] at d3; clear hd; unfold isV at d1; unfold isV at d3; simp only [List.take, putL, Act.put, List.setIfInBounds_toArray, List.set_cons_zero, List.set_cons_succ]; unfold StepOK; go_simp; exact ⟨Below.refl _ _, isV_mk _ _⟩
  apply RunL.pure
  · intro vs w hb hd; have d3 := hd 3 (by decide) (by kernel_rfl); simp only [TR, Nat.reduceAdd, Nat.reduceSub, List.getD_cons_zero, List.getD_cons_succ] at d3; have d4 : isV _ (vs 4) w := hd 4 (by decide) (by kernel_rfl); unfold isV at d4; clear hd; simp only [List.take, putL, Act.put, List.setIfInBounds_toArray, List.set_cons_zero, List.set_cons_succ]; unfold StepOK; go_simp; exact ⟨Below.refl _ _, isV_mk _ _⟩
  apply RunL.pure
  · intro vs w hb hd; have d5 : isV _ (vs 5) w := hd 5 (by decide) (by kernel_rfl); unfold isV at d5; clear hd; simp only [List.take, putL, Act.put, List.setIfInBounds_toArray, List.set_cons_zero, List.set_cons_succ]; unfold StepOK; go_simp; exact ⟨Below.refl _ _, isV_mk _ _⟩
  refine RunL.such (isV (.bool dk)) (isV_stable _) ?_ ?_
  · intro vs w hb hd; have d5 : isV _ (vs 5) w := hd 5 (by decide) (by kernel_rfl); unfold isV at d5; have d6 : isV _ (vs 6) w := hd 6 (by decide) (by kernel_rfl); unfold isV at d6; clear hd; have hd := HD.out.below (HB.out.trans (hb.mono HB.out.size)); simp only [List.take, putL, Act.put, List.setIfInBounds_toArray, List.set_cons_zero, List.set_cons_succ]; unfold StepOK; go_simp; exact ⟨Below.refl _ _, such_of_bool ((Down_any hd).mono (fun e w' ⟨h1, h2⟩ => ⟨by rw [h1, HDK.out], by rw [← h2]; exact Below.refl _ _⟩))⟩
  apply RunL.pure
  · intro vs w hb hd; have d5 : isV _ (vs 5) w := hd 5 (by decide) (by kernel_rfl); unfold isV at d5; clear hd; simp only [List.take, putL, Act.put, List.setIfInBounds_toArray, List.set_cons_zero, List.set_cons_succ]; unfold StepOK; go_simp; exact ⟨Below.refl _ _, isV_mk _ _⟩
  apply RunL.pure
  · intro vs w hb hd; have d5 : isV _ (vs 5) w := hd 5 (by decide) (by kernel_rfl); unfold isV at d5; have d8 : isV _ (vs 8) w := hd 8 (by decide) (by kernel_rfl); unfold isV at d8; clear hd; have hx3 := cellB hb K3.out; simp only [List.take, putL, Act.put, List.setIfInBounds_toArray, List.set_cons_zero, List.set_cons_succ]; unfold StepOK; go_simp; exact ⟨Below.refl _ _, isV_mk _ _⟩
  apply RunL.pure
  · intro vs w hb hd; have d5 : isV _ (vs 5) w := hd 5 (by decide) (by kernel_rfl); unfold isV at d5; have d7 := hd 7 (by decide) (by kernel_rfl); simp only [TR, Nat.reduceAdd, Nat.reduceSub, List.getD_cons_zero, List.getD_cons_succ] at d7; have d9 : isV _ (vs 9) w := hd 9 (by decide) (by kernel_rfl); unfold isV at d9; clear hd; unfold isV at d7; simp only [List.take, putL, Act.put, List.setIfInBounds_toArray, List.set_cons_zero, List.set_cons_succ]; unfold StepOK; go_simp; exact ⟨Below.refl _ _, isV_mk _ _⟩
  apply RunL.pure
  · intro vs w hb hd; have d5 : isV _ (vs 5) w := hd 5 (by decide) (by kernel_rfl); unfold isV at d5; have d10 : isV _ (vs 10) w := hd 10 (by decide) (by kernel_rfl); unfold isV at d10; clear hd; simp only [List.take, putL, Act.put, List.setIfInBounds_toArray, List.set_cons_zero, List.set_cons_succ]; unfold StepOK; go_simp; exact ⟨Below.refl _ _, isV_mk _ _⟩
  intro vs w1 hb hd
  have e0 : isV _ (vs 0) w1 := hd 0 (by decide)
  have e1 := hd 1 (by decide); simp only [TR, Nat.reduceAdd, Nat.reduceSub, List.getD_cons_zero, List.getD_cons_succ] at e1
  have e2 : isV _ (vs 2) w1 := hd 2 (by decide)
  have e3 := hd 3 (by decide); simp only [TR, Nat.reduceAdd, Nat.reduceSub, List.getD_cons_zero, List.getD_cons_succ] at e3
  have e4 : isV _ (vs 4) w1 := hd 4 (by decide)
  have e5 : isV _ (vs 5) w1 := hd 5 (by decide)
  have e6 : isV _ (vs 6) w1 := hd 6 (by decide)
  have e7 := hd 7 (by decide); simp only [TR, Nat.reduceAdd, Nat.reduceSub, List.getD_cons_zero, List.getD_cons_succ] at e7
  have e8 : isV _ (vs 8) w1 := hd 8 (by decide)
  have e9 : isV _ (vs 9) w1 := hd 9 (by decide)
  have e10 : isV _ (vs 10) w1 := hd 10 (by decide)
  have e11 : isV _ (vs 11) w1 := hd 11 (by decide)
  clear hd
  unfold isV at e0 e2 e4 e5 e6 e8 e9 e10 e11
  simp only [putL, Act.put, List.setIfInBounds_toArray, List.set_cons_zero, List.set_cons_succ, e0, e2, e4, e5, e6, e8, e9, e10, e11]
  clear e0 e2 e4 e5 e6 e8 e9 e10 e11
  --@end
  have HB2 := Lib.hid (HB.out.trans (hb.mono HB.out.size))
  have HK1 := Lib.hid (And.intro (cellB hb K0.out) (And.intro (cellB hb K1.out) (And.intro (cellB hb K2.out) (cellB hb K3.out))))
  have HS2 := Lib.hid (HS.out.below hb)
  have hc := List_any (HD.out.below HB2.out)
  rw [HNL.out] at hc
  clear hb K0 K1 K2 K3 HS
  go_wp2_with fail
  refine hc.mono ?_; rintro x w3 ⟨A5, c5, rfl, ho, hb3⟩
  have HB3 := Lib.hid (HB2.out.trans (hb3.mono HB2.out.size))
  have HO := Lib.hid ho
  have K1 := Lib.hid (cellB hb3 HK1.out.2.1)
  have K0 := Lib.hid (cellB hb3 HK1.out.1)
  have K2 := Lib.hid (cellB hb3 HK1.out.2.2.1)
  have K3 := Lib.hid (cellB hb3 HK1.out.2.2.2)
  have HS3 := Lib.hid (HS2.out.below hb3)
  clear hc ho hb3 HK1 HS2
  go_wp2_with fail
  go_loopw [5, 23] (fun s5 s23 wx => ∃ k : Nat, k ≤ n ∧ s5 = .int .i64 (k : Int) ∧ s23 = .int .i64 (k : Int) ∧ Hid (Below w3.heap.size w3 wx)) (fun _ iv _ => n - (intOf iv).toNat)
  case atStart => exact ⟨0, by omega, rfl, rfl, Lib.hid (Below.refl _ _)⟩
  case round =>
    obtain ⟨k, hk, rfl, rfl, HX⟩ := hrel
    have k0 := cellB HX.out K0.out
    have k1 := cellB HX.out K1.out
    have k2 := cellB HX.out K2.out
    have k3 := cellB HX.out K3.out
    by_cases g1 : (k : Int) < (n : Int)
    · have hcf := HCF.out wr (HB3.out.trans (HX.out.mono HB3.out.size)) k (by omega)
      obtain ⟨e, he⟩ := get_some es k (by omega)
      have hfk : D.fs[k]? = some e.f := by rw [← HEq.out, List.getElem?_map, he]; rfl
      have v1 : (nmV D.fs)[k]? = some (.string (bstr e.f.nm)) := by unfold nmV; rw [List.getElem?_map, hfk]; rfl
      obtain ⟨g, hA, q1⟩ := (HO.out.sl.below HX.out).cells k _ v1
      have hss := HS3.out.below HX.out
      obtain ⟨ad, rfl⟩ := slFE_addr hss he
      obtain ⟨y0, y1, y2⟩ := slFE_three hss he
      have hin : (0 : Int) ≤ (k : Int) ∧ (k : Int) < (n : Int) := by omega
      subst hA
      clear hss he hfk v1
      go_wp2_with fail
      refine hcf.mono ?_; rintro x w5 ⟨rfl, hb5⟩
      have HX5 := Lib.hid (HX.out.trans (hb5.mono HX.out.size))
      clear hcf hb5 k0 k1 k2 k3 y0 y1 y2 q1
      go_wp2_with fail
      go_roundw
      case rel => exact ⟨k + 1, by omega, by go_num, by go_num, HX5⟩
      case measure => simp [intOf]; omega
    · obtain rfl : k = n := by omega
      go_wp2_with fail
      go_ret
      exact ⟨by simp, HB3.out.trans (HX.out.mono HB3.out.size)⟩
end
end Go.Proofs.YtemegkapmgcffaaGreat
