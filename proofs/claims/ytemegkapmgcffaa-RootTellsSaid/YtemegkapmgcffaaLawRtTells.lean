import Derived.Test.YtemegkapmgcffaaRefRt
import Derived.Test.YtemegkapmgcffaaMRc
import Derived.Test.YtemegkapmgcffaaRowsR
/- RootTells: the walk (printed by wip/gen/grttells.py). -/
namespace Go.Proofs.Ytemegkapmgcffaa
open Go.RowKit
set_option linter.unusedSimpArgs false
set_option linter.unusedVariables false

set_option maxRecDepth 100000 in
set_option maxHeartbeats 16000000 in
theorem rttells_any (s b : Int) (A B : Option Addr) (n c m d : Nat) (x l : List UInt8) (W : World) (hx : Sl W 1 A n c (bytesV x)) (hl : Sl W 1 B m d (bytesV l)) :
    Calls Try.prog 3 #[.agg #[.int .i64 s, .int .i64 b, .slice A n c], .slice B m d] W fun x w' => x = .returned (.bool true) ∧ Below W.heap.size W w' := by
  obtain ⟨w1, hw1⟩ : ∃ w1, w1 = W.alloc (.cells (rtC s b A n c).toArray 24) := ⟨_, rfl⟩
  have hb1 : Below W.heap.size W w1 := by rw [hw1]; exact below_alloc1 _ _
  have key : ∀ j u, (rtC s b A n c)[j]? = some u → w1.cell? ⟨W.heap.size, j, none⟩ = some u := fun j u hj => by rw [hw1]; exact box_cellsR W _ _ j u hj
  have c0 := key 0 _ rfl
  have c1 := key 1 _ rfl
  have c2 := key 2 _ rfl
  have eW : (W.alloc (.cells #[.int .i64 s, .int .i64 b, .slice A n c] 24)) = w1 := by rw [hw1]; rfl
  have HB := Lib.hid hb1
  have HX := Lib.hid (hx.below hb1)
  have HL := Lib.hid (hl.below hb1)
  have hxlt : bytesV x ≠ [] → ∀ a, A = some a → a.block < w1.heap.size := fun hne a ha => by
    obtain ⟨v, t, hv⟩ := List.exists_cons_of_ne_nil hne
    obtain ⟨ad, h6, h7⟩ := (hx.below hb1).cells 0 v (by rw [hv]; rfl)
    rw [ha] at h6
    cases h6
    have h8 := World.block_lt_of_cell? _ _ h7
    rwa [add_block] at h8
  have HXL := Lib.hid hxlt
  clear key hb1 hw1 hx hl hxlt
  go_enter Try.func3, Try.ntmps3
  go_upto_region 1 with fail
  clear eW
  by_cases h1 : n ≤ 500 ∧ m ≤ 1000
  · obtain ⟨i1, i2⟩ := h1
    have j1 : ¬ (500 : Int) < (n : Int) := by omega
    have j2 : ¬ (1000 : Int) < (m : Int) := by omega
    obtain ⟨bs, be, hBY⟩ : ∃ bs be, bytesR s b x = (bs, be) := ⟨_, _, rfl⟩
    obtain ⟨q, pe, hPA⟩ : ∃ q pe, parseF l = (q, pe) := ⟨_, _, rfl⟩
    have k1 := Bytes_any s b A n c x w1 HX.out HXL.out
    rw [hBY] at k1
    have HBY := Lib.hid hBY
    have HPA := Lib.hid hPA
    clear hBY hPA
    go_wp2_with fail
    refine k1.mono ?_; rintro e w2 ⟨A2, a2, rfl, o2, b2⟩
    have s2 := o2.sl
    have k2 := refBytes_any s b A n c x w2 (HX.out.below b2)
    rw [HBY.out] at k2
    have d0 := cellBr b2 c0
    have d1 := cellBr b2 c1
    have d2 := cellBr b2 c2
    have B2 := Lib.hid b2
    clear k1 o2 b2 c0 c1 c2
    go_wp2_with fail
    refine k2.mono ?_; rintro e w3 ⟨A3, a3, rfl, s3, b3⟩
    have B3 := Lib.hid (B2.out.trans (b3.mono B2.out.size))
    have k3 := Parse_any B m d l w3 (HL.out.below B3.out) (by omega)
    rw [HPA.out] at k3
    have S2 := Lib.hid (s2.below b3)
    have S3 := Lib.hid s3
    clear k2 s2 s3 b3 d0 d1 d2
    go_wp2_with fail
    refine k3.mono ?_; rintro e w4 ⟨A4, a4, rfl, o4, b4⟩
    simp only [rtV]
    have s4 := o4.sl
    clear k3
    have p0 := box_cellsR w4 [.int .i64 q.s, .int .i64 q.b, .slice A4 q.x.length a4] 24 0 _ rfl
    have p1 := box_cellsR w4 [.int .i64 q.s, .int .i64 q.b, .slice A4 q.x.length a4] 24 1 _ rfl
    have p2 := box_cellsR w4 [.int .i64 q.s, .int .i64 q.b, .slice A4 q.x.length a4] 24 2 _ rfl
    have pb := below_alloc1 w4 (.cells #[.int .i64 q.s, .int .i64 q.b, .slice A4 q.x.length a4] 24)
    go_upto_region 6 with fail
    obtain ⟨w5, hw5⟩ : ∃ w5, w5 = w4.alloc (.cells #[.int .i64 q.s, .int .i64 q.b, .slice A4 q.x.length a4] 24) := ⟨_, rfl⟩
    have hTw5 : (w4.alloc (.cells [Value.int .i64 q.s, .int .i64 q.b, .slice A4 q.x.length a4].toArray 24)) = w5 := hw5.symm
    rw [hTw5] at p0 p1 p2
    rw [← hw5] at pb ⊢
    clear hTw5 hw5
    have b45 := b4.trans (pb.mono b4.size)
    have B5 := Lib.hid (B3.out.trans (b45.mono B3.out.size))
    have S4 := Lib.hid (s4.below pb)
    have S2b := Lib.hid (S2.out.below b45)
    have S3b := Lib.hid (S3.out.below b45)
    have k4 := refParse_any B m d l w5 (HL.out.below B5.out) (by omega)
    rw [HPA.out] at k4
    clear b4 pb b45 o4 s4 S2 S3
    go_wp2_with fail
    refine k4.mono ?_; rintro e w6 ⟨A6, a6, rfl, s6, b6⟩
    have y0 := cellBr b6 p0
    have y1 := cellBr b6 p1
    have y2 := cellBr b6 p2
    clear k4 p0 p1 p2
    have r0 := box_cellsR w6 [.int .i64 q.s, .int .i64 q.b, .slice A6 q.x.length a6] 24 0 _ rfl
    have r1 := box_cellsR w6 [.int .i64 q.s, .int .i64 q.b, .slice A6 q.x.length a6] 24 1 _ rfl
    have r2 := box_cellsR w6 [.int .i64 q.s, .int .i64 q.b, .slice A6 q.x.length a6] 24 2 _ rfl
    have rb := below_alloc1 w6 (.cells #[.int .i64 q.s, .int .i64 q.b, .slice A6 q.x.length a6] 24)
    go_upto_region 7 with fail
    obtain ⟨w7, hw7⟩ : ∃ w7, w7 = w6.alloc (.cells #[.int .i64 q.s, .int .i64 q.b, .slice A6 q.x.length a6] 24) := ⟨_, rfl⟩
    have hTw7 : (w6.alloc (.cells [Value.int .i64 q.s, .int .i64 q.b, .slice A6 q.x.length a6].toArray 24)) = w7 := hw7.symm
    rw [hTw7] at r0 r1 r2
    rw [← hw7] at rb ⊢
    clear hTw7 hw7
    have b67 := b6.trans (rb.mono b6.size)
    have z0 := cellBr rb y0
    have z1 := cellBr rb y1
    have z2 := cellBr rb y2
    have B7 := Lib.hid (B5.out.trans (b67.mono B5.out.size))
    have k5 := sameBytes_any A2 A3 bs.length a2 bs.length a3 bs bs w7 (S2b.out.below b67) (S3b.out.below b67)
    have htt : (bs == bs) = true := by simp
    rw [htt] at k5
    have hpp : (be == be) = true := by simp
    have k6 := sameRoot_any q.s q.b q.s q.b A4 A6 q.x.length a4 q.x.length a6 q.x q.x w7 (S4.out.below b67) (s6.below rb)
    have htt2 : (decide (q.s = q.s) && (decide (q.b = q.b) && (q.x == q.x))) = true := by simp
    rw [htt2] at k6
    clear b6 rb b67 y0 y1 y2 htt htt2 s6
    go_wp2_with fail
    refine k5.mono ?_; rintro e w8 ⟨rfl, rfl⟩
    clear k5
    go_wp2_with fail
    refine k6.mono ?_; rintro e w8 ⟨rfl, b8⟩
    clear k6 z0 z1 z2 r0 r1 r2
    go_wp2_with fail
    refine (awake6_any w8).mono ?_; rintro e wz ⟨rfl, bz⟩
    go_wp2_with fail
    go_ret
    exact ⟨rfl, HB.out.trans ((B7.out.trans ((b8.trans (bz.mono b8.size)).mono B7.out.size)).mono HB.out.size)⟩
  · by_cases g1 : (500 : Int) < (n : Int)
    · go_wp2_with fail
      refine (awake6_any w1).mono ?_; rintro e wz ⟨rfl, bz⟩
      go_wp2_with fail
      go_ret
      exact ⟨rfl, HB.out.trans (bz.mono HB.out.size)⟩
    · have g2 : (1000 : Int) < (m : Int) := by omega
      clear h1
      go_wp2_with fail
      refine (awake6_any w1).mono ?_; rintro e wz ⟨rfl, bz⟩
      go_wp2_with fail
      go_ret
      exact ⟨rfl, HB.out.trans (bz.mono HB.out.size)⟩
end Go.Proofs.Ytemegkapmgcffaa
