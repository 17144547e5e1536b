import Derived.Test.YtemegkapmgcffaaR2I
import Derived.Test.YtemegkapmgcffaaR2K
import Derived.Test.YtemegkapmgcffaaR2H
import Derived.Test.YtemegkapmgcffaaR2F
import Derived.Test.YtemegkapmgcffaaR2J
import Derived.Test.YtemegkapmgcffaaR2N
import Derived.Test.YtemegkapmgcffaaR2M
import Derived.Test.YtemegkapmgcffaaPureTell
/- The document's disk, by value: should (printed by wip/gen/gr2o.py). -/
namespace Go.Proofs.Ytemegkapmgcffaa
open Go.RowKit
set_option linter.unusedSimpArgs false
set_option linter.unusedVariables false

section
variable {w : World} {room fuse : Int} {dark : Bool} {A : Option Addr} {n c : Nat} {es : List FE}
set_option maxRecDepth 100000 in
set_option maxHeartbeats 16000000 in
theorem should_any {G : Nat → Prop} (hG : ∀ q, w.heap.size ≤ q → G q) (hs : R2 G w A n c es) (hgd : Good ⟨room, fuse, dark, es.map FE.f⟩) (hlm : Lim 300000 (es.map FE.f)) (d : Ded) (hd : OkDed w d) (hl : largeB d = false) :
    Calls Try.prog 54 #[.agg #[.int .i64 room, .slice A n c, .int .i64 fuse, .bool dark], .agg (dedC d).toArray] w (R2P G w (doesD ⟨room, fuse, dark, es.map FE.f⟩ d)) := by
  obtain ⟨la, lt, lb, lk, ls⟩ := small_of hl
  have hmx : maxLen = 9223372036854775807 := rfl
  have hln := slFE_len hs.sl
  have hfew : es.length ≤ 200 := by have := hgd.few; simpa using this
  have hb1 := below_alloc1 w (.cells #[.int .i64 room, .slice A n c, .int .i64 fuse, .bool dark] 80)
  have k0 := box_cellsR w [.int .i64 room, .slice A n c, .int .i64 fuse, .bool dark] 80 0 _ rfl
  have k1 := box_cellsR w [.int .i64 room, .slice A n c, .int .i64 fuse, .bool dark] 80 1 _ rfl
  have k2 := box_cellsR w [.int .i64 room, .slice A n c, .int .i64 fuse, .bool dark] 80 2 _ rfl
  have k3 := box_cellsR w [.int .i64 room, .slice A n c, .int .i64 fuse, .bool dark] 80 3 _ rfl
  have ob := new_own w [.int .i64 room, .slice A n c, .int .i64 fuse, .bool dark] 80 4 rfl (by unfold maxLen; omega)
  obtain ⟨w1, hw1⟩ : ∃ w1, w1 = w.alloc (.cells #[.int .i64 room, .slice A n c, .int .i64 fuse, .bool dark] 80) := ⟨_, rfl⟩
  have hT1 : (w.alloc (.cells [.int .i64 room, .slice A n c, .int .i64 fuse, .bool dark].toArray 80)) = w1 := hw1.symm
  rw [hT1] at k0 k1 k2 k3 ob
  rw [← hw1] at hb1
  have hz1 : w1.heap.size = w.heap.size + 1 := by rw [hw1]; simp
  have hb2 := below_alloc1 w1 (.cells (dedC d).toArray 70)
  have c0 := box_cellsN w1 (dedC d) 70 0 _ rfl
  have c1 := box_cellsN w1 (dedC d) 70 1 _ rfl
  have c2 := box_cellsN w1 (dedC d) 70 2 _ rfl
  have c3 := box_cellsN w1 (dedC d) 70 3 _ rfl
  have c4 := box_cellsN w1 (dedC d) 70 4 _ rfl
  have c5 := box_cellsN w1 (dedC d) 70 5 _ rfl
  have c6 := box_cellsN w1 (dedC d) 70 6 _ rfl
  obtain ⟨w2, hw2⟩ : ∃ w2, w2 = w1.alloc (.cells (dedC d).toArray 70) := ⟨_, rfl⟩
  rw [← hw2] at hb2 c0 c1 c2 c3 c4 c5 c6
  rw [hz1] at c0 c1 c2 c3 c4 c5 c6
  have hz2 : w2.heap.size = w.heap.size + 2 := by rw [hw2]; simp [hz1]
  have hb3 := below_alloc1 w2 (.cells #[.int .i64 0, .slice none 0 0, .int .i64 0, .bool false] 80)
  have orr := new_own w2 [.int .i64 0, .slice none 0 0, .int .i64 0, .bool false] 80 4 rfl (by unfold maxLen; omega)
  obtain ⟨w3, hw3⟩ : ∃ w3, w3 = w2.alloc (.cells #[.int .i64 0, .slice none 0 0, .int .i64 0, .bool false] 80) := ⟨_, rfl⟩
  have hT3 : (w2.alloc (.cells [.int .i64 0, .slice none 0 0, .int .i64 0, .bool false].toArray 80)) = w3 := hw3.symm
  rw [hT3, hz2] at orr
  rw [← hw3] at hb3
  have eW : ((w.alloc (.cells #[.int .i64 room, .slice A n c, .int .i64 fuse, .bool dark] 80)).alloc (.cells (dedC d).toArray 70)).alloc (.cells #[.int .i64 0, .slice none 0 0, .int .i64 0, .bool false] 80) = w3 := by rw [hw3, hw2, hw1]
  have b23 := hb2.trans (hb3.mono hb2.size)
  have k0 := cellB b23 k0
  have k1 := cellB b23 k1
  have k2 := cellB b23 k2
  have k3 := cellB b23 k3
  have c0 := cellB hb3 c0
  have c1 := cellB hb3 c1
  have c2 := cellB hb3 c2
  have c3 := cellB hb3 c3
  have c4 := cellB hb3 c4
  have c5 := cellB hb3 c5
  have c6 := cellB hb3 c6
  have OR := Lib.hid (Own.lower orr (show w.heap.size ≤ w.heap.size + 2 by omega))
  have hb13 := hb1.trans (b23.mono hb1.size)
  have HB := Lib.hid hb13
  have HS := Lib.hid (hs.below hb13)
  have Hd := Lib.hid (hd.below hb13)
  have HGd := Lib.hid hgd
  have HLm := Lib.hid hlm
  have HG := Lib.hid (show ∀ q, w3.heap.size ≤ q → G q from fun q hq => hG q (Nat.le_trans hb13.size hq))
  have HSZ := Lib.hid (show w.heap.size + 2 < w3.heap.size by rw [hw3]; simp [hz2])
  clear hb1 hb2 hb3 b23 hw1 hw2 hw3 hT1 hT3 hz1 hz2 ob orr hb13 hs hd hgd hlm hG
  have hop := Hd.out.op
  obtain ⟨o, ho⟩ : ∃ o, o = d.op := ⟨_, rfl⟩
  have HO := Lib.hid ho
  have c00 : w3.cell? ⟨w.heap.size + 1, 0, none⟩ = some (.int .u8 o) := by rw [ho]; exact c0
  rw [← ho] at hop
  clear ho c0
  obtain ⟨r, hr⟩ : ∃ r, doesD ⟨room, fuse, dark, es.map FE.f⟩ d = r := ⟨_, rfl⟩
  have HR := Lib.hid hr
  rw [hr]
  clear hr
  go_enter Try.func54, Try.ntmps54
  go_upto_region 1 with fail
  clear eW
  go_upto_region 2 with fail
  clear c00
  obtain h | h | h | h | h | h | h | h | h | h : o = 0 ∨ o = 1 ∨ o = 2 ∨ o = 3 ∨ o = 4 ∨ o = 5 ∨ o = 6 ∨ o = 7 ∨ o = 8 ∨ 9 ≤ o := by omega
  · subst h
    have hr : appendD ⟨room, fuse, dark, es.map FE.f⟩ d.a d.b = r := by rw [← HR.out]; unfold doesD; simp [← HO.out]
    have HC := Lib.hid (r2Append_any (room := room) (fuse := fuse) (dark := dark) HG.out HS.out HGd.out.srt (by omega) (by have := HGd.out.fuse; simp only at this; omega) d.a (by omega) d.bA d.b d.bc Hd.out.b.1 (by omega) (fun e he => by have := HLm.out e.f (List.mem_map_of_mem he); omega) (by have h1 := HGd.out.used; have h2 := HGd.out.room; simp only at h1 h2; omega) HGd.out.room (by omega))
    rw [hr] at HC
    clear hr
    go_wp2_with fail
    refine HC.out.mono ?_; rintro x w4 ⟨A', n', c', es', rfl, q1, q2, q3⟩
    have Q1 := Lib.hid q1
    have Q2 := Lib.hid q2
    have B4 := Lib.hid (HB.out.trans (q3.mono HB.out.size))
    have OR4 := Lib.hid (Own.below OR.out q3)
    clear q1 q2 q3 HC k0 k1 k2 k3 c1 c2 c3 c4 c5 c6
    have f0 := World.ownsRow.frozenAt OR4.out 0
    have f1 := World.ownsRow.frozenAt OR4.out 1
    have f2 := World.ownsRow.frozenAt OR4.out 2
    have f3 := World.ownsRow.frozenAt OR4.out 3
    have m0 := World.ownsRow.cellAt OR4.out 0 (by omega)
    have m1 := World.ownsRow.cellAt OR4.out 1 (by omega)
    have m2 := World.ownsRow.cellAt OR4.out 2 (by omega)
    have m3 := World.ownsRow.cellAt OR4.out 3 (by omega)
    simp only [List.getElem?_cons_zero, List.getElem?_cons_succ] at m0 m1 m2 m3
    have Hst := Lib.hid (stored4R OR4.out (.int .i64 r.2.room) (.slice A' n' c') (.int .i64 r.2.fuse) (.bool r.2.dark))
    go_wp2_with fail
    refine bodyPost_ret (results_cell1R rfl _ _ _ ⟨w.heap.size + 2, 0, none⟩ rfl _ (load_own2D Hst.out.1)) rfl ?_
    exact ⟨A', n', c', es', rfl, R2.kept (held_of_own OR4.out) Q1.out Hst.out.2, Q2.out, wrote2 B4.out Hst.out.2 (by omega)⟩
  · subst h
    have hr : appendD ⟨room, fuse, dark, es.map FE.f⟩ d.a d.b = r := by rw [← HR.out]; unfold doesD; simp [← HO.out]
    have HC := Lib.hid (r2Append_any (room := room) (fuse := fuse) (dark := dark) HG.out HS.out HGd.out.srt (by omega) (by have := HGd.out.fuse; simp only at this; omega) d.a (by omega) d.bA d.b d.bc Hd.out.b.1 (by omega) (fun e he => by have := HLm.out e.f (List.mem_map_of_mem he); omega) (by have h1 := HGd.out.used; have h2 := HGd.out.room; simp only at h1 h2; omega) HGd.out.room (by omega))
    rw [hr] at HC
    clear hr
    go_wp2_with fail
    refine HC.out.mono ?_; rintro x w4 ⟨A', n', c', es', rfl, q1, q2, q3⟩
    have Q1 := Lib.hid q1
    have Q2 := Lib.hid q2
    have B4 := Lib.hid (HB.out.trans (q3.mono HB.out.size))
    have OR4 := Lib.hid (Own.below OR.out q3)
    clear q1 q2 q3 HC k0 k1 k2 k3 c1 c2 c3 c4 c5 c6
    have f0 := World.ownsRow.frozenAt OR4.out 0
    have f1 := World.ownsRow.frozenAt OR4.out 1
    have f2 := World.ownsRow.frozenAt OR4.out 2
    have f3 := World.ownsRow.frozenAt OR4.out 3
    have m0 := World.ownsRow.cellAt OR4.out 0 (by omega)
    have m1 := World.ownsRow.cellAt OR4.out 1 (by omega)
    have m2 := World.ownsRow.cellAt OR4.out 2 (by omega)
    have m3 := World.ownsRow.cellAt OR4.out 3 (by omega)
    simp only [List.getElem?_cons_zero, List.getElem?_cons_succ] at m0 m1 m2 m3
    have Hst := Lib.hid (stored4R OR4.out (.int .i64 r.2.room) (.slice A' n' c') (.int .i64 r.2.fuse) (.bool r.2.dark))
    go_wp2_with fail
    refine bodyPost_ret (results_cell1R rfl _ _ _ ⟨w.heap.size + 2, 0, none⟩ rfl _ (load_own2D Hst.out.1)) rfl ?_
    exact ⟨A', n', c', es', rfl, R2.kept (held_of_own OR4.out) Q1.out Hst.out.2, Q2.out, wrote2 B4.out Hst.out.2 (by omega)⟩
  · subst h
    have hr : appendD ⟨room, fuse, dark, es.map FE.f⟩ d.a d.b = r := by rw [← HR.out]; unfold doesD; simp [← HO.out]
    have HC := Lib.hid (r2Append_any (room := room) (fuse := fuse) (dark := dark) HG.out HS.out HGd.out.srt (by omega) (by have := HGd.out.fuse; simp only at this; omega) d.a (by omega) d.bA d.b d.bc Hd.out.b.1 (by omega) (fun e he => by have := HLm.out e.f (List.mem_map_of_mem he); omega) (by have h1 := HGd.out.used; have h2 := HGd.out.room; simp only at h1 h2; omega) HGd.out.room (by omega))
    rw [hr] at HC
    clear hr
    go_wp2_with fail
    refine HC.out.mono ?_; rintro x w4 ⟨A', n', c', es', rfl, q1, q2, q3⟩
    have Q1 := Lib.hid q1
    have Q2 := Lib.hid q2
    have B4 := Lib.hid (HB.out.trans (q3.mono HB.out.size))
    have OR4 := Lib.hid (Own.below OR.out q3)
    clear q1 q2 q3 HC k0 k1 k2 k3 c1 c2 c3 c4 c5 c6
    have f0 := World.ownsRow.frozenAt OR4.out 0
    have f1 := World.ownsRow.frozenAt OR4.out 1
    have f2 := World.ownsRow.frozenAt OR4.out 2
    have f3 := World.ownsRow.frozenAt OR4.out 3
    have m0 := World.ownsRow.cellAt OR4.out 0 (by omega)
    have m1 := World.ownsRow.cellAt OR4.out 1 (by omega)
    have m2 := World.ownsRow.cellAt OR4.out 2 (by omega)
    have m3 := World.ownsRow.cellAt OR4.out 3 (by omega)
    simp only [List.getElem?_cons_zero, List.getElem?_cons_succ] at m0 m1 m2 m3
    have Hst := Lib.hid (stored4R OR4.out (.int .i64 r.2.room) (.slice A' n' c') (.int .i64 r.2.fuse) (.bool r.2.dark))
    go_wp2_with fail
    refine bodyPost_ret (results_cell1R rfl _ _ _ ⟨w.heap.size + 2, 0, none⟩ rfl _ (load_own2D Hst.out.1)) rfl ?_
    exact ⟨A', n', c', es', rfl, R2.kept (held_of_own OR4.out) Q1.out Hst.out.2, Q2.out, wrote2 B4.out Hst.out.2 (by omega)⟩
  · subst h
    have hr : syncD ⟨room, fuse, dark, es.map FE.f⟩ d.a = r := by rw [← HR.out]; unfold doesD; simp [← HO.out]
    have HC := Lib.hid (r2Sync_any (room := room) (fuse := fuse) (dark := dark) HG.out HS.out HGd.out.srt (by omega) (by have := HGd.out.fuse; simp only at this; omega) d.a)
    rw [hr] at HC
    clear hr
    go_wp2_with fail
    refine HC.out.mono ?_; rintro x w4 ⟨A', n', c', es', rfl, q1, q2, q3⟩
    have Q1 := Lib.hid q1
    have Q2 := Lib.hid q2
    have B4 := Lib.hid (HB.out.trans (q3.mono HB.out.size))
    have OR4 := Lib.hid (Own.below OR.out q3)
    clear q1 q2 q3 HC k0 k1 k2 k3 c1 c2 c3 c4 c5 c6
    have f0 := World.ownsRow.frozenAt OR4.out 0
    have f1 := World.ownsRow.frozenAt OR4.out 1
    have f2 := World.ownsRow.frozenAt OR4.out 2
    have f3 := World.ownsRow.frozenAt OR4.out 3
    have m0 := World.ownsRow.cellAt OR4.out 0 (by omega)
    have m1 := World.ownsRow.cellAt OR4.out 1 (by omega)
    have m2 := World.ownsRow.cellAt OR4.out 2 (by omega)
    have m3 := World.ownsRow.cellAt OR4.out 3 (by omega)
    simp only [List.getElem?_cons_zero, List.getElem?_cons_succ] at m0 m1 m2 m3
    have Hst := Lib.hid (stored4R OR4.out (.int .i64 r.2.room) (.slice A' n' c') (.int .i64 r.2.fuse) (.bool r.2.dark))
    go_wp2_with fail
    refine bodyPost_ret (results_cell1R rfl _ _ _ ⟨w.heap.size + 2, 0, none⟩ rfl _ (load_own2D Hst.out.1)) rfl ?_
    exact ⟨A', n', c', es', rfl, R2.kept (held_of_own OR4.out) Q1.out Hst.out.2, Q2.out, wrote2 B4.out Hst.out.2 (by omega)⟩
  · subst h
    have hr : renameD ⟨room, fuse, dark, es.map FE.f⟩ d.a d.t2 = r := by rw [← HR.out]; unfold doesD; simp [← HO.out]
    have HC := Lib.hid (r2Rename_any (room := room) (fuse := fuse) (dark := dark) HG.out HS.out HGd.out.srt (by omega) (by have := HGd.out.fuse; simp only at this; omega) d.a d.t2 (by omega))
    rw [hr] at HC
    clear hr
    go_wp2_with fail
    refine HC.out.mono ?_; rintro x w4 ⟨A', n', c', es', rfl, q1, q2, q3⟩
    have Q1 := Lib.hid q1
    have Q2 := Lib.hid q2
    have B4 := Lib.hid (HB.out.trans (q3.mono HB.out.size))
    have OR4 := Lib.hid (Own.below OR.out q3)
    clear q1 q2 q3 HC k0 k1 k2 k3 c1 c2 c3 c4 c5 c6
    have f0 := World.ownsRow.frozenAt OR4.out 0
    have f1 := World.ownsRow.frozenAt OR4.out 1
    have f2 := World.ownsRow.frozenAt OR4.out 2
    have f3 := World.ownsRow.frozenAt OR4.out 3
    have m0 := World.ownsRow.cellAt OR4.out 0 (by omega)
    have m1 := World.ownsRow.cellAt OR4.out 1 (by omega)
    have m2 := World.ownsRow.cellAt OR4.out 2 (by omega)
    have m3 := World.ownsRow.cellAt OR4.out 3 (by omega)
    simp only [List.getElem?_cons_zero, List.getElem?_cons_succ] at m0 m1 m2 m3
    have Hst := Lib.hid (stored4R OR4.out (.int .i64 r.2.room) (.slice A' n' c') (.int .i64 r.2.fuse) (.bool r.2.dark))
    go_wp2_with fail
    refine bodyPost_ret (results_cell1R rfl _ _ _ ⟨w.heap.size + 2, 0, none⟩ rfl _ (load_own2D Hst.out.1)) rfl ?_
    exact ⟨A', n', c', es', rfl, R2.kept (held_of_own OR4.out) Q1.out Hst.out.2, Q2.out, wrote2 B4.out Hst.out.2 (by omega)⟩
  · subst h
    have hr : removeD ⟨room, fuse, dark, es.map FE.f⟩ d.a = r := by rw [← HR.out]; unfold doesD; simp [← HO.out]
    have HC := Lib.hid (r2Remove_any (room := room) (fuse := fuse) (dark := dark) HG.out HS.out HGd.out.srt (by omega) (by have := HGd.out.fuse; simp only at this; omega) d.a)
    rw [hr] at HC
    clear hr
    go_wp2_with fail
    refine HC.out.mono ?_; rintro x w4 ⟨A', n', c', es', rfl, q1, q2, q3⟩
    have Q1 := Lib.hid q1
    have Q2 := Lib.hid q2
    have B4 := Lib.hid (HB.out.trans (q3.mono HB.out.size))
    have OR4 := Lib.hid (Own.below OR.out q3)
    clear q1 q2 q3 HC k0 k1 k2 k3 c1 c2 c3 c4 c5 c6
    have f0 := World.ownsRow.frozenAt OR4.out 0
    have f1 := World.ownsRow.frozenAt OR4.out 1
    have f2 := World.ownsRow.frozenAt OR4.out 2
    have f3 := World.ownsRow.frozenAt OR4.out 3
    have m0 := World.ownsRow.cellAt OR4.out 0 (by omega)
    have m1 := World.ownsRow.cellAt OR4.out 1 (by omega)
    have m2 := World.ownsRow.cellAt OR4.out 2 (by omega)
    have m3 := World.ownsRow.cellAt OR4.out 3 (by omega)
    simp only [List.getElem?_cons_zero, List.getElem?_cons_succ] at m0 m1 m2 m3
    have Hst := Lib.hid (stored4R OR4.out (.int .i64 r.2.room) (.slice A' n' c') (.int .i64 r.2.fuse) (.bool r.2.dark))
    go_wp2_with fail
    refine bodyPost_ret (results_cell1R rfl _ _ _ ⟨w.heap.size + 2, 0, none⟩ rfl _ (load_own2D Hst.out.1)) rfl ?_
    exact ⟨A', n', c', es', rfl, R2.kept (held_of_own OR4.out) Q1.out Hst.out.2, Q2.out, wrote2 B4.out Hst.out.2 (by omega)⟩
  · subst h
    have hr : cutD ⟨room, fuse, dark, es.map FE.f⟩ d.a d.n = r := by rw [← HR.out]; unfold doesD; simp [← HO.out]
    have HC := Lib.hid (r2Cut_any (room := room) (fuse := fuse) (dark := dark) HG.out HS.out HGd.out.srt (by omega) (by have := HGd.out.fuse; simp only at this; omega) d.a d.n (fun e he => by have := HLm.out e.f (List.mem_map_of_mem he); omega))
    rw [hr] at HC
    clear hr
    go_wp2_with fail
    refine HC.out.mono ?_; rintro x w4 ⟨A', n', c', es', rfl, q1, q2, q3⟩
    have Q1 := Lib.hid q1
    have Q2 := Lib.hid q2
    have B4 := Lib.hid (HB.out.trans (q3.mono HB.out.size))
    have OR4 := Lib.hid (Own.below OR.out q3)
    clear q1 q2 q3 HC k0 k1 k2 k3 c1 c2 c3 c4 c5 c6
    have f0 := World.ownsRow.frozenAt OR4.out 0
    have f1 := World.ownsRow.frozenAt OR4.out 1
    have f2 := World.ownsRow.frozenAt OR4.out 2
    have f3 := World.ownsRow.frozenAt OR4.out 3
    have m0 := World.ownsRow.cellAt OR4.out 0 (by omega)
    have m1 := World.ownsRow.cellAt OR4.out 1 (by omega)
    have m2 := World.ownsRow.cellAt OR4.out 2 (by omega)
    have m3 := World.ownsRow.cellAt OR4.out 3 (by omega)
    simp only [List.getElem?_cons_zero, List.getElem?_cons_succ] at m0 m1 m2 m3
    have Hst := Lib.hid (stored4R OR4.out (.int .i64 r.2.room) (.slice A' n' c') (.int .i64 r.2.fuse) (.bool r.2.dark))
    go_wp2_with fail
    refine bodyPost_ret (results_cell1R rfl _ _ _ ⟨w.heap.size + 2, 0, none⟩ rfl _ (load_own2D Hst.out.1)) rfl ?_
    exact ⟨A', n', c', es', rfl, R2.kept (held_of_own OR4.out) Q1.out Hst.out.2, Q2.out, wrote2 B4.out Hst.out.2 (by omega)⟩
  · subst h
    have hr : (0, armD ⟨room, fuse, dark, es.map FE.f⟩ d.n) = r := by rw [← HR.out]; unfold doesD; simp [← HO.out]
    have HRr := Lib.hid hr.symm
    have HC := Lib.hid (r2Arm_any (w := w3) (room := room) (A := A) (n := n) (c := c) (fuse := fuse) (dark := dark) d.n)
    clear hr
    go_wp2_with fail
    refine HC.out.mono ?_; rintro x w4 ⟨rfl, q3⟩
    obtain ⟨fu, hfu⟩ : ∃ fu, fu = (if dark = true then fuse else max 0 d.n) := ⟨_, rfl⟩
    rw [← hfu]
    have HFU := Lib.hid hfu
    have Q1 := Lib.hid (HS.out.below q3)
    have B4 := Lib.hid (HB.out.trans (q3.mono HB.out.size))
    have OR4 := Lib.hid (Own.below OR.out q3)
    clear q3 HC hfu k0 k1 k2 k3 c1 c2 c3 c4 c5 c6
    have f0 := World.ownsRow.frozenAt OR4.out 0
    have f1 := World.ownsRow.frozenAt OR4.out 1
    have f2 := World.ownsRow.frozenAt OR4.out 2
    have f3 := World.ownsRow.frozenAt OR4.out 3
    have m0 := World.ownsRow.cellAt OR4.out 0 (by omega)
    have m1 := World.ownsRow.cellAt OR4.out 1 (by omega)
    have m2 := World.ownsRow.cellAt OR4.out 2 (by omega)
    have m3 := World.ownsRow.cellAt OR4.out 3 (by omega)
    simp only [List.getElem?_cons_zero, List.getElem?_cons_succ] at m0 m1 m2 m3
    have Hst := Lib.hid (stored4R OR4.out (.int .i64 room) (.slice A n c) (.int .i64 fu) (.bool dark))
    go_wp2_with fail
    refine bodyPost_ret (results_cell1R rfl _ _ _ ⟨w.heap.size + 2, 0, none⟩ rfl _ (load_own2D Hst.out.1)) rfl ?_
    rw [HRr.out]
    refine ⟨A, n, c, es, ?_, R2.kept (held_of_own OR4.out) Q1.out Hst.out.2, ?_, wrote2 B4.out Hst.out.2 (by omega)⟩
    · unfold armD
      rw [HFU.out]
      cases dark <;> rfl
    · unfold armD
      cases dark <;> rfl
  · subst h
    have hr : (0, crashD ⟨room, fuse, dark, es.map FE.f⟩ d.ks d.ts) = r := by rw [← HR.out]; unfold doesD; simp [← HO.out]
    have HRr := Lib.hid hr.symm
    have HC := Lib.hid (r2Crash_any (room := room) (fuse := fuse) (dark := dark) HG.out HS.out (by omega) (fun e he => ⟨HGd.out.safe e.f (List.mem_map_of_mem he), by have := HLm.out e.f (List.mem_map_of_mem he); omega⟩) d.kA d.tA d.ks.length d.kc d.ts.length d.tc d.ks d.ts Hd.out.ks.1 Hd.out.ts.1 (fun x hx => (Hd.out.ks.2.2 x hx).2) (fun x hx => (Hd.out.ts.2.2 x hx).2))
    clear hr
    go_wp2_with fail
    refine HC.out.mono ?_; rintro x w4 ⟨A', c', es', rfl, q1, q2, q3⟩
    have Q1 := Lib.hid q1
    have Q2 := Lib.hid q2
    have B4 := Lib.hid (HB.out.trans (q3.mono HB.out.size))
    have OR4 := Lib.hid (Own.below OR.out q3)
    clear q1 q2 q3 HC k0 k1 k2 k3 c1 c2 c3 c4 c5 c6
    have f0 := World.ownsRow.frozenAt OR4.out 0
    have f1 := World.ownsRow.frozenAt OR4.out 1
    have f2 := World.ownsRow.frozenAt OR4.out 2
    have f3 := World.ownsRow.frozenAt OR4.out 3
    have m0 := World.ownsRow.cellAt OR4.out 0 (by omega)
    have m1 := World.ownsRow.cellAt OR4.out 1 (by omega)
    have m2 := World.ownsRow.cellAt OR4.out 2 (by omega)
    have m3 := World.ownsRow.cellAt OR4.out 3 (by omega)
    simp only [List.getElem?_cons_zero, List.getElem?_cons_succ] at m0 m1 m2 m3
    have Hst := Lib.hid (stored4R OR4.out (.int .i64 room) (.slice A' n c') (.int .i64 (-1)) (.bool false))
    go_wp2_with fail
    refine bodyPost_ret (results_cell1R rfl _ _ _ ⟨w.heap.size + 2, 0, none⟩ rfl _ (load_own2D Hst.out.1)) rfl ?_
    rw [HRr.out]
    exact ⟨A', n, c', es', rfl, R2.kept (held_of_own OR4.out) Q1.out Hst.out.2, Q2.out, wrote2 B4.out Hst.out.2 (by omega)⟩
  · have hr : (0, ⟨room, fuse, dark, es.map FE.f⟩) = r := by rw [← HR.out]; unfold doesD; rw [← HO.out]; repeat rw [if_neg (by omega)]
    have HRr := Lib.hid hr.symm
    clear hr
    have q0 : (o == 0) = false := by simp; omega
    have q1 : (o == 1) = false := by simp; omega
    have q2 : (o == 2) = false := by simp; omega
    have q3 : (o == 3) = false := by simp; omega
    have q4 : (o == 4) = false := by simp; omega
    have q5 : (o == 5) = false := by simp; omega
    have q6 : (o == 6) = false := by simp; omega
    have q7 : (o == 7) = false := by simp; omega
    have q8 : (o == 8) = false := by simp; omega
    have OR4 := OR
    have f0 := World.ownsRow.frozenAt OR4.out 0
    have f1 := World.ownsRow.frozenAt OR4.out 1
    have f2 := World.ownsRow.frozenAt OR4.out 2
    have f3 := World.ownsRow.frozenAt OR4.out 3
    have m0 := World.ownsRow.cellAt OR4.out 0 (by omega)
    have m1 := World.ownsRow.cellAt OR4.out 1 (by omega)
    have m2 := World.ownsRow.cellAt OR4.out 2 (by omega)
    have m3 := World.ownsRow.cellAt OR4.out 3 (by omega)
    simp only [List.getElem?_cons_zero, List.getElem?_cons_succ] at m0 m1 m2 m3
    have Hst := Lib.hid (stored4R OR4.out (.int .i64 room) (.slice A n c) (.int .i64 fuse) (.bool dark))
    go_wp2_with fail
    refine bodyPost_ret (results_cell1R rfl _ _ _ ⟨w.heap.size + 2, 0, none⟩ rfl _ (load_own2D Hst.out.1)) rfl ?_
    rw [HRr.out]
    exact ⟨A, n, c, es, rfl, R2.kept (held_of_own OR4.out) HS.out Hst.out.2, rfl, wrote2 HB.out Hst.out.2 (by omega)⟩
end
end Go.Proofs.Ytemegkapmgcffaa
