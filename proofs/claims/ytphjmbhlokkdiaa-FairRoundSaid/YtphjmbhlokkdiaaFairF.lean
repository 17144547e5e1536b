import Derived.Test.YtphjmbhlokkdiaaFairE
namespace Go.Proofs.Ytphjmbhlokkdiaa
open Go.RowKit Go.Maps Go.WideShapes Go.WideMaps
set_option linter.unusedSimpArgs false
set_option linter.unusedVariables false

theorem ownsMap_below {H : Type} {w w' : World} {P : Program} {k : TypeId} {R : Value → Option (DataW H × List MemPlace)} {b n : Nat} {D : DataW H} (h : w.ownsMap P k R b n D) (hb : Below w.heap.size w w') : w'.ownsMap P k R b n D :=
  h.kept (row := none) ⟨hb.os, hb.tape, hb.output, hb.size, fun i hi _ => hb.block i hi⟩ (by simp)
/-- heads that may be -/
structure MayOK (ts : List Tn) (hs : List Hd) : Prop where
  nodup : (hs.map Hd.N).Nodup
  each : ∀ h, h ∈ hs → h.N.length ≤ 40 ∧ 0 ≤ placeI ts h.N ∧ 1 ≤ h.C ∧ h.C ≤ 1000
theorem nodup_take {hs : List Hd} (h : (hs.map Hd.N).Nodup) {k : Nat} {x : Hd} (hx : hs[k]? = some x) : x.N ∉ (hs.take k).map Hd.N := by
  intro hm
  obtain ⟨h1, h2⟩ := List.getElem?_eq_some_iff.1 hx
  have e1 : hs = hs.take k ++ (x :: hs.drop (k + 1)) := by
    rw [← h2, ← List.drop_eq_getElem_cons h1, List.take_append_drop]
  rw [e1, List.map_append, List.map_cons, List.nodup_append] at h
  exact h.2.2 _ hm _ List.mem_cons_self rfl

set_option maxRecDepth 100000 in
set_option maxHeartbeats 4000000 in
theorem may_any (Q : Int) (A A2 : Option Addr) (m d m2 d2 : Nat) (At : Int) (H : Bool) (ts : List Tn) (hs : List Hd) (w : World) (hT : Sl w 3 A m d (flatT ts)) (hH : Sl w 2 A2 m2 d2 (flatH hs)) (hm : m ≤ 1000000) (hm2 : m2 ≤ 1000000) (hok : MayOK ts hs) :
    Calls Try.prog 63 #[frV Q A m d At H, .slice A2 m2 d2] w fun e w' => e = .returned (.bool true) ∧ Below w.heap.size w w' := by
  have hl := slH_len hH
  have hmm := @run_makeMap Try.prog
  obtain ⟨w0, hw0⟩ : ∃ w0, w0 = w.alloc (.cells #[.int .i64 Q, .slice A m d, .int .i64 At, .bool H] 36) := ⟨_, rfl⟩
  have hb0 := below_alloc1 w (.cells #[.int .i64 Q, .slice A m d, .int .i64 At, .bool H] 36)
  have o0 : Own w.heap.size 36 1 (w.alloc (.cells #[.int .i64 Q, .slice A m d, .int .i64 At, .bool H] 36)) (some ⟨w.heap.size, 0, none⟩) 4 4 (frC Q A m d At H) := new_own w (frC Q A m d At H) 36 4 rfl (by unfold maxLen; omega)
  have n0 : (w.alloc (.cells #[.int .i64 Q, .slice A m d, .int .i64 At, .bool H] 36)).heap.size = w.heap.size + 1 := by simp
  rw [← hw0] at o0 n0 hb0
  have hown := World.ownsMap_made (H := Unit) w0 Try.prog 9 (plainElem Try.prog 3)
  have hb1 := below_alloc1 w0 (.map #[] 0)
  have n1 : (w0.alloc (.map #[] 0)).heap.size = w0.heap.size + 1 := by simp
  rw [n0] at hown n1
  have o1 := o0.below hb1
  have hbM := hb0.trans (hb1.mono hb0.size)
  subst hw0
  clear hb0 hb1 o0 n0
  unfold frV
  go_enter Try.func63, Try.ntmps63
  go_upto_region 2 with fail
  generalize (w.alloc (.cells #[.int .i64 Q, .slice A m d, .int .i64 At, .bool H] 36)).alloc (.map #[] 0) = W1 at *
  have HW := Lib.hid n1
  clear n1
  go_wp2_with fail
  go_loopw [11] (fun s11 wx => ∃ (k : Nat) (D : DataW Unit) (sn : List (List UInt8)), k ≤ m2 ∧ s11 = .int .i64 (k : Int) ∧ wx.ownsMap Try.prog 9 (plainElem Try.prog 3) (w.heap.size + 1) k D ∧ Hid (SeenD D sn) ∧ Hid (∀ s, s ∈ sn ↔ s ∈ (hs.take k).map Hd.N) ∧ Below (w.heap.size + 1) W1 wx) (fun iv _ => m2 - (intOf iv).toNat)
  case atStart => exact ⟨0, .map [], [], by omega, rfl, hown, Lib.hid seen_empty, Lib.hid (by simp), Below.refl _ _⟩
  case round =>
    obtain ⟨k, D, sn, hk, rfl, hmap, HD, Hsn, hbx⟩ := hrel
    have ox := o1.keep hbx (by omega)
    have hbw := hbM.trans (hbx.mono (by omega))
    by_cases g1 : (k : Int) < (m2 : Int)
    · obtain ⟨q, hq⟩ := get_some hs k (by omega)
      have hsx := hH.below hbw
      obtain ⟨ad, rfl⟩ := slH_addr hH hq
      obtain ⟨z0, z1⟩ := slH_two hsx hq
      have hin : (0 : Int) ≤ (k : Int) ∧ (k : Int) < (m2 : Int) := by omega
      obtain ⟨e1, e2, e3, e4⟩ := hok.each q (List.mem_of_getElem? hq)
      have hns : ¬ q.N ∈ sn := fun h => nodup_take hok.nodup hq ((Hsn.out q.N).1 h)
      have Hq := Lib.hid hq
      have Hl := Lib.hid hl
      clear hq hl hsx
      have hbt := below_alloc1 wr (.cells q.cells.toArray 45)
      have ot : Own wr.heap.size 45 1 (wr.alloc (.cells q.cells.toArray 45)) (some ⟨wr.heap.size, 0, none⟩) 2 2 q.cells := new_own wr q.cells 45 2 rfl (by unfold maxLen; omega)
      have hmap2 := hmap.alloc (.cells q.cells.toArray 45)
      have ox2 := ox.below hbt
      have hbx2 := hbx.trans (hbt.mono (by have := hbx.size; have := HW.out; omega))
      simp only [Hd.cells] at hbt ot hmap2 ox2 hbx2
      go_upto_region 5 with fail
      generalize wr.alloc (.cells #[.string (bstr q.N), .int .i64 q.C] 45) = w3 at *
      clear z0 z1 hmap ox hbt hbx hbw
      have hlook := HD.out.look hmap2 q.N e1
      rw [if_neg hns] at hlook
      have y0 := World.ownsRow.cellAt ox2 0 (by omega)
      have y1 := World.ownsRow.cellAt ox2 1 (by omega)
      have y2 := World.ownsRow.cellAt ox2 2 (by omega)
      have y3 := World.ownsRow.cellAt ox2 3 (by omega)
      simp only [frC, List.getElem?_cons_succ, List.getElem?_cons_zero] at y0 y1 y2 y3
      have c0 := World.ownsRow.cellAt ot 0 (by omega)
      simp only [List.getElem?_cons_succ, List.getElem?_cons_zero] at c0
      have hbw3 := hbM.trans (hbx2.mono (by omega))
      have hT3 := hT.below hbw3
      go_wp2_with fail
      refine (place_any Q A m d At H ts q.N _ hT3 hm).mono ?_; rintro x w4 ⟨rfl, hb4⟩
      have hmap4 := ownsMap_below hmap2 hb4
      have hbx4 := hbx2.trans (hb4.mono (by have := hbx2.size; have := HW.out; omega))
      have ot4 := ot.below hb4
      clear y0 y1 y2 y3 c0 hlook ot ox2 hmap2 hT3 hbx2 hb4 hbw3
      have c0 := World.ownsRow.cellAt ot4 0 (by omega)
      have c1 := World.ownsRow.cellAt ot4 1 (by omega)
      simp only [List.getElem?_cons_succ, List.getElem?_cons_zero] at c0 c1
      obtain ⟨pl, hpl⟩ : ∃ p, p = placeI ts q.N := ⟨_, rfl⟩
      rw [← hpl] at e2 ⊢
      clear hpl
      go_wp2_with (at_mapUpdate; refine wpList_mapUpdate_own _ rfl _ _ _ 101 rfl 9 3 lawS Try.underlying101 _ (w.heap.size + 1) k _ rfl hmap4 (by unfold maxLen; omega) _ _ _ rfl rfl (keyS q.N e1) _ [] (plainElem_int Try.underlying3 (by decide)) ?_; intro w5 hmap5 hgr5)
      go_roundw
      case rel => exact ⟨k + 1, _, q.N :: sn, by omega, by go_num, hmap5, Lib.hid (HD.out.put hmap4.isMap q.N), Lib.hid (fun s => by rw [take_snoc Hq.out, List.map_append, List.mem_append, List.mem_cons, Hsn.out s]; simp [or_comm]), hbx4.grown hgr5 (by have := hbx4.size; have := HW.out; omega) (fun j hj => by cases hj; exact Nat.le_refl _)⟩
      case measure => simp [intOf]; omega
    · obtain rfl : k = m2 := by omega
      go_wp2_with fail
      go_ret
      exact ⟨rfl, hbw⟩
end Go.Proofs.Ytphjmbhlokkdiaa
