import Derived.Test.YtphjmbhlokkdiaaWkE
import Derived.Test.YtphjmbhlokkdiaaPWorkersTellx1
/- The workers: the chapter's examples. -/
namespace Go.Proofs.Ytphjmbhlokkdiaa
open Go.RowKit Go.Proofs.YtphjmbhlokkdiaaW.PrintWords Go.Proofs.YtphjmbhlokkdiaaW.PrintLast Go.Proofs.YtphjmbhlokkdiaaW.PrintMore
set_option linter.unusedSimpArgs false
set_option linter.unusedVariables false

theorem seen_a : seenW [] 3 5 = ([⟨3, 5⟩], 0) := rfl
theorem seen_b : seenW [⟨3, 5⟩] 1 7 = ([⟨1, 7⟩, ⟨3, 5⟩], 0) := rfl
theorem seen_c : seenW [⟨1, 7⟩, ⟨3, 5⟩] 3 4 = ([⟨1, 7⟩, ⟨3, 5⟩], 2) := rfl
theorem gone_a : goneW [⟨1, 7⟩, ⟨3, 5⟩] 10 4 = [3] := rfl
theorem gone_b : goneW [⟨1, 7⟩, ⟨3, 5⟩] 10 5 = [] := rfl
set_option maxRecDepth 100000 in
set_option maxHeartbeats 4000000 in
theorem awake19_any (w : World) : Calls Try.prog 32 #[] w fun e w' => e = .returned (.bool true) ∧ Below w.heap.size w w' := by
  go_enter Try.func32, Try.ntmps32
  go_wp2_with fail
  refine (seenW_any none 0 0 [] 3 5 _ (Sl.nil _ _) (by omega)).mono ?_; rintro x w1 ⟨A1, n1, c1, rfl, s1, hb1⟩
  rw [seen_a] at s1 ⊢
  obtain rfl : n1 = 1 := (slW_len s1).symm
  go_wp2_with fail
  refine (seenW_any A1 1 c1 [⟨3, 5⟩] 1 7 _ s1 (by omega)).mono ?_; rintro x w2 ⟨A2, n2, c2, rfl, s2, hb2⟩
  rw [seen_b] at s2 ⊢
  obtain rfl : n2 = 2 := (slW_len s2).symm
  have hbA := hb1.trans (hb2.mono hb1.size)
  clear hb1 hb2 s1
  go_wp2_with fail
  refine (seenW_any A2 2 c2 [⟨1, 7⟩, ⟨3, 5⟩] 3 4 _ s2 (by omega)).mono ?_; rintro x w3 ⟨A3, n3, c3, rfl, s3, hb3⟩
  have s2 := s2.below hb3
  rw [seen_c] at s3 ⊢
  have hbB := hbA.trans (hb3.mono hbA.size)
  clear hbA hb3 s3
  obtain ⟨ad, rfl⟩ := slW_addr s2 (k := 0) rfl
  obtain ⟨y0, y1⟩ := slW_two s2 (k := 0) rfl
  obtain ⟨z0, z1⟩ := slW_two s2 (k := 1) rfl
  have y0' : w3.cell? ad = some (.int .i64 1) := y0
  have y1' : w3.cell? { block := ad.block, off := ad.off + 1, spot := none } = some (.int .i64 7) := y1
  have z0' : w3.cell? { block := ad.block, off := ad.off + 2, spot := none } = some (.int .i64 3) := z0
  have z1' : w3.cell? { block := ad.block, off := ad.off + 2 + 1, spot := none } = some (.int .i64 5) := z1
  clear y0 y1 z0 z1
  go_wp2_with fail
  refine (wgone_any (some ad) 2 c2 [⟨1, 7⟩, ⟨3, 5⟩] 10 4 _ s2 (by omega)).mono ?_; rintro x w4 ⟨A4, c4, rfl, s4, hb4⟩
  rw [gone_a] at s4 ⊢
  have s2 := s2.below hb4
  have hbC := hbB.trans (hb4.mono hbB.size)
  have bn := below_alloc1 w4 (.cells #[.int .i64 3] 3)
  have s5 := s4.below bn
  have sl5 := sl_cells w4 [.int .i64 3] 3
  have s2 := s2.below bn
  have hbD := hbC.trans (bn.mono hbC.size)
  clear hbB hbC hb4 bn s4 y0' y1' z0' z1'
  simp only [List.length_cons, List.length_nil, Nat.zero_add] at s5 ⊢
  go_wp2_with fail
  refine (kints_any A4 (some ⟨w4.heap.size, 0, none⟩) 1 c4 1 [3] _ s5 sl5 (by omega)).mono ?_; rintro x w6 ⟨rfl, hb6⟩
  have s2 := s2.below hb6
  have hbE := hbD.trans (hb6.mono hbD.size)
  clear hbD hb6 s5 sl5
  go_wp2_with fail
  refine (wgone_any (some ad) 2 c2 [⟨1, 7⟩, ⟨3, 5⟩] 10 5 _ s2 (by omega)).mono ?_; rintro x w7 ⟨A7, c7, rfl, s7, hb7⟩
  rw [gone_b]
  simp only [List.length_nil]
  have hbF := hbE.trans (hb7.mono hbE.size)
  go_wp2_with fail
  go_ret
  exact ⟨rfl, hbF⟩
end Go.Proofs.Ytphjmbhlokkdiaa
