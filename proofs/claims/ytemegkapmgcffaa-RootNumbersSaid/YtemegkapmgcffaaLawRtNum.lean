import Derived.Test.YtemegkapmgcffaaPureRtNum
import Derived.Test.YtemegkapmgcffaaRkN
import Derived.Test.YtemegkapmgcffaaRowsR
/- RootNumbers: the walk (printed by wip/gen/grtnumw.py). -/
namespace Go.Proofs.Ytemegkapmgcffaa
open Go.RowKit
set_option linter.unusedSimpArgs false
set_option linter.unusedVariables false

theorem sl_lit3 (w : World) (cs : List Value) (t : TypeId) (n : Nat) (h : cs.length = n * 3) : Sl (w.alloc (.cells cs.toArray t)) 3 (some ⟨w.heap.size, 0, none⟩) n n cs := by
  refine ⟨fun j u hj => ⟨_, rfl, ?_⟩, h, Nat.le_refl _, fun h => by cases h⟩
  rw [add_plain, cell_of_row _ w.heap.size j cs.toArray t (0, 0) (heap_alloc_new w _)]
  simpa using hj
def badE (A : Option Addr) (c : Nat) (zs : List UInt8) : List Ro := [⟨0, 0, [], none, 0⟩, ⟨-1, 0, [], none, 0⟩, ⟨1099511627777, 0, [], none, 0⟩, ⟨1, -1, [], none, 0⟩, ⟨1, 576460752303423489, [], none, 0⟩, ⟨1, 0, zs, A, c⟩]
theorem badE_all {A : Option Addr} {c : Nat} {zs : List UInt8} {Q : Ro → Prop} (h0 : ∀ s b, rightR s b 0 = false → Q ⟨s, b, [], none, 0⟩) (h1 : Q ⟨1, 0, zs, A, c⟩) : ∀ e, e ∈ badE A c zs → Q e := by
  intro e he
  simp only [badE, List.mem_cons, List.not_mem_nil, or_false] at he
  rcases he with rfl | rfl | rfl | rfl | rfl | rfl
  · exact h0 _ _ (by decide)
  · exact h0 _ _ (by decide)
  · exact h0 _ _ (by decide)
  · exact h0 _ _ (by decide)
  · exact h0 _ _ (by decide)
  · exact h1
set_option maxRecDepth 100000 in
set_option maxHeartbeats 64000000 in
theorem rtnum_any (W : World) : Calls Try.prog 8 #[] W fun x w' => x = .returned (.bool true) ∧ Below W.heap.size W w' := by
  obtain ⟨i0, hi, hz0, hz1, hz2⟩ := info_parts infoByte
  have HIz := Lib.hid (And.intro hi (And.intro hz0 (And.intro hz1 hz2)))
  go_enter Try.func8, Try.ntmps8
  go_wp2_with (at_make; refine wpList_make_full _ rfl _ _ 22 rfl W.heap.size 5 i0 (.int .u8 0) 1 Try.underlying22 hi hz0 hz1 _ _ _ _ 524289 rfl rfl rfl rfl (by rw [hz2]; omega) (by unfold maxLen; omega) (Nat.le_refl _) ?_; intro w1 hown1 hgrow1)
  have o1 := made_z hown1
  have hb1 := grownBy_below hgrow1
  obtain ⟨zs, hzs⟩ : ∃ zs, zs = List.replicate 524289 (0 : UInt8) := ⟨_, rfl⟩
  have hzl : zs.length = 524289 := by rw [hzs, List.length_replicate]
  rw [← hzs] at o1
  clear hown1 hgrow1 hzs
  have hfl : flatRo (badE (some ⟨W.heap.size, 0, none⟩) 524289 zs) = [.int .i64 0, .int .i64 0, .slice none 0 0, .int .i64 (-1), .int .i64 0, .slice none 0 0, .int .i64 1099511627777, .int .i64 0, .slice none 0 0, .int .i64 1, .int .i64 (-1), .slice none 0 0, .int .i64 1, .int .i64 576460752303423489, .slice none 0 0, .int .i64 1, .int .i64 0, .slice (some ⟨W.heap.size, 0, none⟩) 524289 524289] := by
    simp [flatRo, badE, roC, hzl]
  have s2 := sl_lit3 w1 _ 24 6 (show (flatRo (badE (some ⟨W.heap.size, 0, none⟩) 524289 zs)).length = 6 * 3 by rw [hfl]; rfl)
  have hb2 := below_alloc1 w1 (.cells (flatRo (badE (some ⟨W.heap.size, 0, none⟩) 524289 zs)).toArray 24)
  obtain ⟨w2, hw2⟩ : ∃ w2, w2 = w1.alloc (.cells (flatRo (badE (some ⟨W.heap.size, 0, none⟩) 524289 zs)).toArray 24) := ⟨_, rfl⟩
  rw [← hw2] at s2 hb2
  rw [hfl] at hw2
  have hT2 : w1.alloc (.cells #[.int .i64 0, .int .i64 0, .slice none 0 0, .int .i64 (-1), .int .i64 0, .slice none 0 0, .int .i64 1099511627777, .int .i64 0, .slice none 0 0, .int .i64 1, .int .i64 (-1), .slice none 0 0, .int .i64 1, .int .i64 576460752303423489, .slice none 0 0, .int .i64 1, .int .i64 0, .slice (some ⟨W.heap.size, 0, none⟩) 524289 524289] 24) = w2 := hw2.symm
  have ok : ∀ e, e ∈ badE (some ⟨W.heap.size, 0, none⟩) 524289 zs → bytesR e.s e.b e.x = ([], 2) ∧ Sl w2 1 e.A e.x.length e.c (bytesV e.x) ∧ (bytesV e.x ≠ [] → ∀ a, e.A = some a → a.block < w2.heap.size) :=
    badE_all (fun s b hr => ⟨bad_bytes hr, Sl.nil _ _, fun h => absurd rfl h⟩) ⟨bad_bytes (by show rightR 1 0 zs.length = false; rw [hzl]; decide), by show Sl w2 1 _ zs.length _ _; rw [hzl]; exact (Own.below o1 hb2).sl, fun _ a ha => (own_ltR (Own.below o1 hb2) a ha).2⟩
  have S2 := Lib.hid s2
  have OK := Lib.hid ok
  have HB2 := Lib.hid (hb1.trans (hb2.mono hb1.size))
  have hel : (badE (some ⟨W.heap.size, 0, none⟩) 524289 zs).length = 6 := rfl
  obtain ⟨es, hes⟩ : ∃ es, es = badE (some ⟨W.heap.size, 0, none⟩) 524289 zs := ⟨_, rfl⟩
  rw [← hes] at S2 OK hel
  clear s2 ok hb1 hb2 hfl hw2 o1 hi hz0 hz1 hz2 hzl hes
  go_wp2_with fail
  rw [hT2]
  clear hT2
  obtain ⟨rb, hrb⟩ : ∃ rb, rb = w1.heap.size := ⟨_, rfl⟩
  rw [← hrb] at S2 ⊢
  clear hrb
  go_loopw [44] (fun s44 wx => ∃ i : Nat, i ≤ 6 ∧ s44 = .int .i64 (i : Int) ∧ Hid (Below w2.heap.size w2 wx)) (fun iv _ => 6 - (intOf iv).toNat)
  case atStart => exact ⟨0, by omega, rfl, Lib.hid (Below.refl _ _)⟩
  case round =>
    obtain ⟨i, hi6, rfl, HBw⟩ := hrel
    by_cases g1 : (i : Int) < 6
    · obtain ⟨e, he⟩ := get_some es i (by rw [hel]; omega)
      obtain ⟨y0, y1, y2⟩ := slR_three (S2.out.below HBw.out) he
      simp only [add_plain, Nat.zero_add] at y0 y1 y2
      obtain ⟨k1, k2, k3⟩ := OK.out e (List.mem_of_getElem? he)
      have hin : (0 : Int) ≤ (i : Int) ∧ (i : Int) < 6 := by omega
      have HK := Lib.hid (And.intro k1 (And.intro k2 k3))
      clear k1 k2 k3 he
      have q0 := box_cellsR wr [.int .i64 e.s, .int .i64 e.b, .slice e.A e.x.length e.c] 24 0 _ rfl
      have q1 := box_cellsR wr [.int .i64 e.s, .int .i64 e.b, .slice e.A e.x.length e.c] 24 1 _ rfl
      have q2 := box_cellsR wr [.int .i64 e.s, .int .i64 e.b, .slice e.A e.x.length e.c] 24 2 _ rfl
      have qb := below_alloc1 wr (.cells #[.int .i64 e.s, .int .i64 e.b, .slice e.A e.x.length e.c] 24)
      go_upto_region 4 with fail
      obtain ⟨w3, hw3⟩ : ∃ w3, w3 = wr.alloc (.cells #[.int .i64 e.s, .int .i64 e.b, .slice e.A e.x.length e.c] 24) := ⟨_, rfl⟩
      have hTw3 : (wr.alloc (.cells [Value.int .i64 e.s, .int .i64 e.b, .slice e.A e.x.length e.c].toArray 24)) = w3 := hw3.symm
      rw [hTw3] at q0 q1 q2
      rw [← hw3] at qb ⊢
      clear hTw3 hw3
      have hB3 := HBw.out.trans (qb.mono HBw.out.size)
      have hc := Bytes_any e.s e.b e.A e.x.length e.c e.x w3 (HK.out.2.1.below hB3) (fun hne a ha => Nat.lt_of_lt_of_le (HK.out.2.2 hne a ha) hB3.size)
      rw [HK.out.1] at hc
      have HB3 := Lib.hid hB3
      clear hB3 qb y0 y1 y2 hin
      go_wp2_with fail
      refine hc.mono ?_; rintro x w4 ⟨A4, c4, rfl, o4, b4⟩
      have HB4 := Lib.hid (HB3.out.trans (b4.mono HB3.out.size))
      clear hc q0 q1 q2 o4 b4
      go_wp2_with fail
      go_roundw
      case rel => exact ⟨i + 1, by omega, by go_num, HB4⟩
      case measure => simp [intOf]; omega
    · obtain rfl : i = 6 := by omega
      have HBr := Lib.hid (HB2.out.trans (HBw.out.mono HB2.out.size))
      obtain ⟨hi, hz0, hz1, hz2⟩ := HIz.out
      clear S2 OK HBw HB2 hi6
      go_wp2_with (at_make; refine wpList_make_full _ rfl _ _ 22 rfl wr.heap.size 5 i0 (.int .u8 0) 1 Try.underlying22 hi hz0 hz1 _ _ _ _ 524288 rfl rfl rfl rfl (by rw [hz2]; omega) (by unfold maxLen; omega) (Nat.le_refl _) ?_; intro w3 hown3 hgrow3)
      have o3 := made_z hown3
      have hb3 := grownBy_below hgrow3
      obtain ⟨lb, hlb, hlm, hll⟩ := long_bytes
      have hlp := bytes_parse hlb
      obtain ⟨zz, hzz⟩ : ∃ zz, zz = List.replicate 524288 (0 : UInt8) := ⟨_, rfl⟩
      have hzl : zz.length = 524288 := by rw [hzz, List.length_replicate]
      rw [← hzz] at o3 hlb hlp
      have hc := Bytes_any 1099511627776 576460752303423488 (some ⟨wr.heap.size, 0, none⟩) 524288 524288 zz w3 o3.sl (fun _ a ha => (own_ltR o3 a ha).2)
      rw [hlb] at hc
      have HB3 := Lib.hid (HBr.out.trans (hb3.mono HBr.out.size))
      have HLM := Lib.hid hlm
      have HLL := Lib.hid hll
      clear hown3 hgrow3 hzz hi hz0 hz1 hz2 o3 hb3 hlb hlm hll
      go_wp2_with fail
      refine hc.mono ?_; rintro x w4 ⟨LA, lc, rfl, o4, b4⟩
      have hc2 := Parse_any LA lb.length lc lb w4 o4.sl (by have := HLL.out; omega)
      rw [hlp] at hc2
      have OL := Lib.hid o4
      have HB4 := Lib.hid (HB3.out.trans (b4.mono HB3.out.size))
      clear hc o4 b4 hlp
      go_wp2_with fail
      refine hc2.mono ?_; rintro x w5 ⟨PA, pc, rfl, o5, b5⟩
      simp only [rtV, hzl]
      clear hc2
      have p0 := box_cellsR w5 [.int .i64 1099511627776, .int .i64 576460752303423488, .slice PA 524288 pc] 24 0 _ rfl
      have p1 := box_cellsR w5 [.int .i64 1099511627776, .int .i64 576460752303423488, .slice PA 524288 pc] 24 1 _ rfl
      have p2 := box_cellsR w5 [.int .i64 1099511627776, .int .i64 576460752303423488, .slice PA 524288 pc] 24 2 _ rfl
      have pb := below_alloc1 w5 (.cells #[.int .i64 1099511627776, .int .i64 576460752303423488, .slice PA 524288 pc] 24)
      go_upto_region 10 with fail
      obtain ⟨w6, hw6⟩ : ∃ w6, w6 = w5.alloc (.cells #[.int .i64 1099511627776, .int .i64 576460752303423488, .slice PA 524288 pc] 24) := ⟨_, rfl⟩
      have hTw6 : (w5.alloc (.cells [Value.int .i64 1099511627776, .int .i64 576460752303423488, .slice PA 524288 pc].toArray 24)) = w6 := hw6.symm
      rw [hTw6] at p0 p1 p2
      rw [← hw6] at pb ⊢
      clear hTw6 hw6
      have hb56 := b5.trans (pb.mono b5.size)
      have HB6 := Lib.hid (HB4.out.trans (hb56.mono HB4.out.size))
      have OL6 := Lib.hid (Own.below OL.out hb56)
      have P0 := Lib.hid p0
      have P1 := Lib.hid p1
      have P2 := Lib.hid p2
      clear b5 pb hb56 o5 p0 p1 p2 hzl
      go_wp2_with fail
      refine (copyBytes_any LA lb.length lc lb w6 OL6.out.sl (by have := HLL.out; omega)).mono ?_; rintro x w7 ⟨rfl, o7, b7⟩
      have hll := HLL.out
      have hb78 := below_alloc1 w7 (.cells #[.int .u8 0] 5)
      have hap : App w6.heap.size 5 1 (w7.alloc (.cells #[.int .u8 0] 5)) (some ⟨w6.heap.size, 0, none⟩) lb.length lb.length (bytesV lb) := App.alloc (.inl o7) _
      have hs7 := b7.size
      go_wp2_with (at_builtin; refine wpList_app _ rfl _ _ 22 rfl w6.heap.size 5 (.int .u8 0) 1 1 Try.underlying22 infoByte rfl (by decide) _ lb.length lb.length (bytesV lb) rfl hap (some ⟨w7.heap.size, 0, none⟩) 1 1 [byteV 0] rfl (sl_one _ _ _) (bytesV_one [0]) (by unfold maxLen; omega) (by omega) (by simp; omega) ?_; intro A8 c8 w8 hat)
      have s8 : Sl w8 1 A8 (lb.length + 1) c8 (bytesV (lb ++ [0])) := by
        have h := hat.app.sl
        rw [show bytesV lb ++ [byteV 0] = bytesV (lb ++ [0]) by simp [bytesV]] at h
        exact h
      have b8 : Below w6.heap.size w6 w8 := (b7.trans (hb78.mono hs7)).trans (hat.below (by simp; omega))
      have hc3 := Parse_any A8 (lb.length + 1) c8 (lb ++ [0]) w8 s8 (by omega)
      rw [HLM.out] at hc3
      have HB8 := Lib.hid (HB6.out.trans (b8.mono HB6.out.size))
      have P0 := Lib.hid (cellB b8 P0.out)
      have P1 := Lib.hid (cellB b8 P1.out)
      have P2 := Lib.hid (cellB b8 P2.out)
      clear hap hb78 o7 b7 hs7 hat s8 b8 hll
      go_wp2_with fail
      refine hc3.mono ?_; rintro x w9 ⟨A9, c9, rfl, o9, b9⟩
      simp only [rtV]
      clear hc3
      have q0 := box_cellsR w9 [.int .i64 0, .int .i64 0, .slice A9 0 c9] 24 0 _ rfl
      have q1 := box_cellsR w9 [.int .i64 0, .int .i64 0, .slice A9 0 c9] 24 1 _ rfl
      have q2 := box_cellsR w9 [.int .i64 0, .int .i64 0, .slice A9 0 c9] 24 2 _ rfl
      have qb := below_alloc1 w9 (.cells #[.int .i64 0, .int .i64 0, .slice A9 0 c9] 24)
      go_upto_region 11 with fail
      obtain ⟨w10, hw10⟩ : ∃ w10, w10 = w9.alloc (.cells #[.int .i64 0, .int .i64 0, .slice A9 0 c9] 24) := ⟨_, rfl⟩
      have hTw10 : (w9.alloc (.cells [Value.int .i64 0, .int .i64 0, .slice A9 0 c9].toArray 24)) = w10 := hw10.symm
      rw [hTw10] at q0 q1 q2
      rw [← hw10] at qb ⊢
      clear hTw10 hw10
      have HB10 := Lib.hid (HB8.out.trans ((b9.trans (qb.mono b9.size)).mono HB8.out.size))
      have P0 := Lib.hid (cellB (b9.trans (qb.mono b9.size)) P0.out)
      have P1 := Lib.hid (cellB (b9.trans (qb.mono b9.size)) P1.out)
      have P2 := Lib.hid (cellB (b9.trans (qb.mono b9.size)) P2.out)
      clear b9 qb q0 q1 q2 o9
      have hc4 := Parse_any none 0 0 [] w10 (Sl.nil _ _) (by omega)
      rw [parse_nil] at hc4
      go_wp2_with fail
      refine hc4.mono ?_; rintro x w11 ⟨A11, c11, rfl, o11, b11⟩
      simp only [rtV]
      clear hc4
      have q0 := box_cellsR w11 [.int .i64 0, .int .i64 0, .slice A11 0 c11] 24 0 _ rfl
      have q1 := box_cellsR w11 [.int .i64 0, .int .i64 0, .slice A11 0 c11] 24 1 _ rfl
      have q2 := box_cellsR w11 [.int .i64 0, .int .i64 0, .slice A11 0 c11] 24 2 _ rfl
      have qb := below_alloc1 w11 (.cells #[.int .i64 0, .int .i64 0, .slice A11 0 c11] 24)
      go_upto_region 12 with fail
      obtain ⟨w12, hw12⟩ : ∃ w12, w12 = w11.alloc (.cells #[.int .i64 0, .int .i64 0, .slice A11 0 c11] 24) := ⟨_, rfl⟩
      have hTw12 : (w11.alloc (.cells [Value.int .i64 0, .int .i64 0, .slice A11 0 c11].toArray 24)) = w12 := hw12.symm
      rw [hTw12] at q0 q1 q2
      rw [← hw12] at qb ⊢
      clear hTw12 hw12
      have HB12 := Lib.hid (HB10.out.trans ((b11.trans (qb.mono b11.size)).mono HB10.out.size))
      have P0 := Lib.hid (cellB (b11.trans (qb.mono b11.size)) P0.out)
      have P1 := Lib.hid (cellB (b11.trans (qb.mono b11.size)) P1.out)
      have P2 := Lib.hid (cellB (b11.trans (qb.mono b11.size)) P2.out)
      clear b11 qb q0 q1 q2 o11
      have sl0 := sl_lit_mark w12 [0, 0, 0] 5 (0, 0)
      have bl0 := below_alloc1 w12 (.cells (bytesV [0, 0, 0]).toArray 5 (0, 0))
      have cn0 := none6_any (some ⟨w12.heap.size, 0, none⟩) 3 3 [0, 0, 0] _ sl0 (by decide) (by decide) nn0_parse
      go_wp2_with fail
      refine cn0.mono ?_; rintro x w13 ⟨rfl, bn0⟩
      have HB13 := Lib.hid (HB12.out.trans ((bl0.trans (bn0.mono bl0.size)).mono HB12.out.size))
      have P0 := Lib.hid (cellB (bl0.trans (bn0.mono bl0.size)) P0.out)
      have P1 := Lib.hid (cellB (bl0.trans (bn0.mono bl0.size)) P1.out)
      have P2 := Lib.hid (cellB (bl0.trans (bn0.mono bl0.size)) P2.out)
      clear sl0 bl0 cn0 bn0
      have sl1 := sl_lit_mark w13 [1, 0] 5 (0, 0)
      have bl1 := below_alloc1 w13 (.cells (bytesV [1, 0]).toArray 5 (0, 0))
      have cn1 := none6_any (some ⟨w13.heap.size, 0, none⟩) 2 2 [1, 0] _ sl1 (by decide) (by decide) nn1_parse
      go_wp2_with fail
      refine cn1.mono ?_; rintro x w14 ⟨rfl, bn1⟩
      have HB14 := Lib.hid (HB13.out.trans ((bl1.trans (bn1.mono bl1.size)).mono HB13.out.size))
      have P0 := Lib.hid (cellB (bl1.trans (bn1.mono bl1.size)) P0.out)
      have P1 := Lib.hid (cellB (bl1.trans (bn1.mono bl1.size)) P1.out)
      have P2 := Lib.hid (cellB (bl1.trans (bn1.mono bl1.size)) P2.out)
      clear sl1 bl1 cn1 bn1
      have sl2 := sl_lit_mark w14 [1, 0, 1] 5 (0, 0)
      have bl2 := below_alloc1 w14 (.cells (bytesV [1, 0, 1]).toArray 5 (0, 0))
      have cn2 := none6_any (some ⟨w14.heap.size, 0, none⟩) 3 3 [1, 0, 1] _ sl2 (by decide) (by decide) nn2_parse
      go_wp2_with fail
      refine cn2.mono ?_; rintro x w15 ⟨rfl, bn2⟩
      have HB15 := Lib.hid (HB14.out.trans ((bl2.trans (bn2.mono bl2.size)).mono HB14.out.size))
      have P0 := Lib.hid (cellB (bl2.trans (bn2.mono bl2.size)) P0.out)
      have P1 := Lib.hid (cellB (bl2.trans (bn2.mono bl2.size)) P1.out)
      have P2 := Lib.hid (cellB (bl2.trans (bn2.mono bl2.size)) P2.out)
      clear sl2 bl2 cn2 bn2
      have sl3 := sl_lit_mark w15 [1, 0, 0, 0] 5 (0, 0)
      have bl3 := below_alloc1 w15 (.cells (bytesV [1, 0, 0, 0]).toArray 5 (0, 0))
      have cn3 := none6_any (some ⟨w15.heap.size, 0, none⟩) 4 4 [1, 0, 0, 0] _ sl3 (by decide) (by decide) nn3_parse
      go_wp2_with fail
      refine cn3.mono ?_; rintro x w16 ⟨rfl, bn3⟩
      have HB16 := Lib.hid (HB15.out.trans ((bl3.trans (bn3.mono bl3.size)).mono HB15.out.size))
      have P0 := Lib.hid (cellB (bl3.trans (bn3.mono bl3.size)) P0.out)
      have P1 := Lib.hid (cellB (bl3.trans (bn3.mono bl3.size)) P1.out)
      have P2 := Lib.hid (cellB (bl3.trans (bn3.mono bl3.size)) P2.out)
      clear sl3 bl3 cn3 bn3
      have sl4 := sl_lit_mark w16 [129, 0, 0, 0] 5 (0, 0)
      have bl4 := below_alloc1 w16 (.cells (bytesV [129, 0, 0, 0]).toArray 5 (0, 0))
      have cn4 := none6_any (some ⟨w16.heap.size, 0, none⟩) 4 4 [129, 0, 0, 0] _ sl4 (by decide) (by decide) nn4_parse
      go_wp2_with fail
      refine cn4.mono ?_; rintro x w17 ⟨rfl, bn4⟩
      have HB17 := Lib.hid (HB16.out.trans ((bl4.trans (bn4.mono bl4.size)).mono HB16.out.size))
      have P0 := Lib.hid (cellB (bl4.trans (bn4.mono bl4.size)) P0.out)
      have P1 := Lib.hid (cellB (bl4.trans (bn4.mono bl4.size)) P1.out)
      have P2 := Lib.hid (cellB (bl4.trans (bn4.mono bl4.size)) P2.out)
      clear sl4 bl4 cn4 bn4
      have hnew : newD 10 = na0 := rfl
      go_wp2_with fail
      refine (new_dsk (Below.refl w17.heap.size w17) (by decide)).mono ?_; rintro x w18 ⟨p, rfl, h18⟩
      rw [hnew] at h18
      have z0 := cellB h18.bel P0.out
      have z1 := cellB h18.bel P1.out
      have z2 := cellB h18.bel P2.out
      have d18 := (DskM.of h18).lit [97, 98, 99] (3, 4)
      clear hnew h18
      have kc := fun (w : World) (C : Array Value) (n c : Nat) => Lib.run_convert_bytes_const (P := Try.prog) w 22 5 C n c Try.underlying22 Try.underlying5
      go_wp2_with fail
      refine (rwrite_m d18 0 0 (List.mem_cons_self ..) (by show 3 ≤ 100000000; decide) na0_abc).mono ?_; rintro x w19 ⟨RA, rc, rfl, d19⟩
      simp only [rt0] at d19 ⊢
      clear z0 z1 z2 d18 P0 P1 P2
      have q0 := box_cellsR w19 [.int .i64 0, .int .i64 0, .slice RA 0 rc] 24 0 _ rfl
      have q1 := box_cellsR w19 [.int .i64 0, .int .i64 0, .slice RA 0 rc] 24 1 _ rfl
      have q2 := box_cellsR w19 [.int .i64 0, .int .i64 0, .slice RA 0 rc] 24 2 _ rfl
      have qb := below_alloc1 w19 (.cells #[.int .i64 0, .int .i64 0, .slice RA 0 rc] 24)
      have d20 := d19.below qb
      go_upto_region 17 with fail
      obtain ⟨w20, hw20⟩ : ∃ w20, w20 = w19.alloc (.cells #[.int .i64 0, .int .i64 0, .slice RA 0 rc] 24) := ⟨_, rfl⟩
      have hTw20 : (w19.alloc (.cells [Value.int .i64 0, .int .i64 0, .slice RA 0 rc].toArray 24)) = w20 := hw20.symm
      rw [hTw20] at q0 q1 q2
      rw [← hw20] at qb d20 ⊢
      clear hTw20 hw20
      clear d19 q0 q1 q2 qb
      have e20 := d20.nil.old (ρ := ⟨none, 0, 0, []⟩) (Sl.nil _ _)
      clear d20
      go_wp2_with fail
      refine (rwrite_m e20 0 0 (List.mem_cons_self ..) (by decide) na0_write).mono ?_; rintro x w21 ⟨RA, rc, rfl, d21⟩
      clear e20
      obtain ⟨g18, hg18⟩ : ∃ g, g = w21.heap.size := ⟨_, rfl⟩
      have q0 := box_cellsR w21 [.int .i64 1, .int .i64 0, .slice RA 0 rc] 24 0 _ rfl
      have q1 := box_cellsR w21 [.int .i64 1, .int .i64 0, .slice RA 0 rc] 24 1 _ rfl
      have q2 := box_cellsR w21 [.int .i64 1, .int .i64 0, .slice RA 0 rc] 24 2 _ rfl
      have qb := below_alloc1 w21 (.cells #[.int .i64 1, .int .i64 0, .slice RA 0 rc] 24)
      have d22 := d21.alloc (.cells #[.int .i64 1, .int .i64 0, .slice RA 0 rc] 24)
      go_upto_region 18 with fail
      obtain ⟨w22, hw22⟩ : ∃ w22, w22 = w21.alloc (.cells #[.int .i64 1, .int .i64 0, .slice RA 0 rc] 24) := ⟨_, rfl⟩
      have hTw22 : (w21.alloc (.cells [Value.int .i64 1, .int .i64 0, .slice RA 0 rc].toArray 24)) = w22 := hw22.symm
      rw [hTw22] at q0 q1 q2
      rw [← hw22] at qb d22 ⊢
      clear hTw22 hw22
      clear d21 q0 q1 q2 qb
      rw [← hg18] at d22 ⊢
      clear hg18
      have e22 := d22.nil.old (ρ := ⟨none, 0, 0, []⟩) (Sl.nil _ _)
      clear d22
      go_wp2_with fail
      refine (rwrite_m e22 0 (-1) (List.mem_cons_self ..) (by decide) na1_bad).mono ?_; rintro x w23 ⟨RA, rc, rfl, d23⟩
      clear e22
      simp only [rt0] at d23 ⊢
      have q0 := box_cellsR w23 [.int .i64 0, .int .i64 0, .slice RA 0 rc] 24 0 _ rfl
      have q1 := box_cellsR w23 [.int .i64 0, .int .i64 0, .slice RA 0 rc] 24 1 _ rfl
      have q2 := box_cellsR w23 [.int .i64 0, .int .i64 0, .slice RA 0 rc] 24 2 _ rfl
      have qb := below_alloc1 w23 (.cells #[.int .i64 0, .int .i64 0, .slice RA 0 rc] 24)
      have d24 := d23.below qb
      go_upto_region 19 with fail
      obtain ⟨w24, hw24⟩ : ∃ w24, w24 = w23.alloc (.cells #[.int .i64 0, .int .i64 0, .slice RA 0 rc] 24) := ⟨_, rfl⟩
      have hTw24 : (w23.alloc (.cells [Value.int .i64 0, .int .i64 0, .slice RA 0 rc].toArray 24)) = w24 := hw24.symm
      rw [hTw24] at q0 q1 q2
      rw [← hw24] at qb d24 ⊢
      clear hTw24 hw24
      clear d23 q0 q1 q2 qb
      have e24 := d24.nil.old (ρ := ⟨none, 0, 0, []⟩) (Sl.nil _ _)
      clear d24
      go_wp2_with fail
      refine (rwrite_m e24 0 1 (List.mem_cons_self ..) (by decide) na1_full).mono ?_; rintro x w25 ⟨RA, rc, rfl, d25⟩
      clear e24
      simp only [rt0] at d25 ⊢
      have q0 := box_cellsR w25 [.int .i64 0, .int .i64 0, .slice RA 0 rc] 24 0 _ rfl
      have q1 := box_cellsR w25 [.int .i64 0, .int .i64 0, .slice RA 0 rc] 24 1 _ rfl
      have q2 := box_cellsR w25 [.int .i64 0, .int .i64 0, .slice RA 0 rc] 24 2 _ rfl
      have qb := below_alloc1 w25 (.cells #[.int .i64 0, .int .i64 0, .slice RA 0 rc] 24)
      have d26 := d25.below qb
      go_upto_region 20 with fail
      obtain ⟨w26, hw26⟩ : ∃ w26, w26 = w25.alloc (.cells #[.int .i64 0, .int .i64 0, .slice RA 0 rc] 24) := ⟨_, rfl⟩
      have hTw26 : (w25.alloc (.cells [Value.int .i64 0, .int .i64 0, .slice RA 0 rc].toArray 24)) = w26 := hw26.symm
      rw [hTw26] at q0 q1 q2
      rw [← hw26] at qb d26 ⊢
      clear hTw26 hw26
      clear d25 q0 q1 q2 qb
      have DF := Lib.hid d26.nil
      clear d26
      have hnew2 : newD 1000 = ra0 := rfl
      go_wp2_with fail
      refine (new_dsk (Below.refl w26.heap.size w26) (by decide)).mono ?_; rintro x w27 ⟨p2, rfl, h27⟩
      rw [hnew2] at h27
      have e27 := (DskM.of h27).nil.old (ρ := ⟨none, 0, 0, []⟩) (Sl.nil _ _)
      clear h27 hnew2
      go_wp2_with fail
      refine (rwrite_m e27 77 3 (List.mem_cons_self ..) (by decide) xa0_write).mono ?_; rintro x w28 ⟨RA, rc, rfl, d28⟩
      clear e27
      obtain ⟨g26, hg26⟩ : ∃ g, g = w28.heap.size := ⟨_, rfl⟩
      have HG26 := Lib.hid (show w26.heap.size ≤ g26 by rw [hg26]; exact d28.bel.size)
      have q0 := box_cellsR w28 [.int .i64 1, .int .i64 3, .slice RA 0 rc] 24 0 _ rfl
      have q1 := box_cellsR w28 [.int .i64 1, .int .i64 3, .slice RA 0 rc] 24 1 _ rfl
      have q2 := box_cellsR w28 [.int .i64 1, .int .i64 3, .slice RA 0 rc] 24 2 _ rfl
      have qb := below_alloc1 w28 (.cells #[.int .i64 1, .int .i64 3, .slice RA 0 rc] 24)
      have d29 := d28.alloc (.cells #[.int .i64 1, .int .i64 3, .slice RA 0 rc] 24)
      go_upto_region 22 with fail
      obtain ⟨w29, hw29⟩ : ∃ w29, w29 = w28.alloc (.cells #[.int .i64 1, .int .i64 3, .slice RA 0 rc] 24) := ⟨_, rfl⟩
      have hTw29 : (w28.alloc (.cells [Value.int .i64 1, .int .i64 3, .slice RA 0 rc].toArray 24)) = w29 := hw29.symm
      rw [hTw29] at q0 q1 q2
      rw [← hw29] at qb d29 ⊢
      clear hTw29 hw29
      clear d28 q0 q1 q2 qb
      rw [← hg26] at d29 ⊢
      clear hg26
      have e29 := d29.nil.lit [116, 111, 114, 110] (4, 5)
      clear d29
      go_wp2_with fail
      refine (append_m (nm := rnw) e29 (by rfl) (by decide) (List.mem_cons_self ..) (by show 4 ≤ 100000000; decide) xa1_torn).mono ?_; rintro x w30 ⟨rfl, d30⟩
      have e30 := d30.nil.old (ρ := ⟨none, 0, 0, []⟩) (Sl.nil _ _)
      clear e29 d30
      go_wp2_with fail
      refine (rwrite_m e30 0 4 (List.mem_cons_self ..) (by decide) xa2_write).mono ?_; rintro x w31 ⟨RA, rc, rfl, d31⟩
      clear e30
      obtain ⟨g28, hg28⟩ : ∃ g, g = w31.heap.size := ⟨_, rfl⟩
      have HG28 := Lib.hid (show w26.heap.size ≤ g28 by rw [hg28]; exact d31.bel.size)
      have q0 := box_cellsR w31 [.int .i64 2, .int .i64 4, .slice RA 0 rc] 24 0 _ rfl
      have q1 := box_cellsR w31 [.int .i64 2, .int .i64 4, .slice RA 0 rc] 24 1 _ rfl
      have q2 := box_cellsR w31 [.int .i64 2, .int .i64 4, .slice RA 0 rc] 24 2 _ rfl
      have qb := below_alloc1 w31 (.cells #[.int .i64 2, .int .i64 4, .slice RA 0 rc] 24)
      have d32 := d31.alloc (.cells #[.int .i64 2, .int .i64 4, .slice RA 0 rc] 24)
      go_upto_region 24 with fail
      obtain ⟨w32, hw32⟩ : ∃ w32, w32 = w31.alloc (.cells #[.int .i64 2, .int .i64 4, .slice RA 0 rc] 24) := ⟨_, rfl⟩
      have hTw32 : (w31.alloc (.cells [Value.int .i64 2, .int .i64 4, .slice RA 0 rc].toArray 24)) = w32 := hw32.symm
      rw [hTw32] at q0 q1 q2
      rw [← hw32] at qb d32 ⊢
      clear hTw32 hw32
      clear d31 q0 q1 q2 qb
      rw [← hg28] at d32 ⊢
      clear hg28
      go_wp2_with fail
      refine (arm_m d32.nil (by decide) xa3_arm).mono ?_; rintro x w33 ⟨rfl, d33⟩
      clear d32
      go_wp2_with fail
      refine (sync_m (nm := rn0) d33 (by rfl) xa4_sync).mono ?_; rintro x w34 ⟨rfl, d34⟩
      clear d33
      go_wp2_with fail
      refine (rread_m d34 xa5_read).mono ?_; rintro x w35 ⟨RA, rc, rfl, d35⟩
      simp only [rt0] at d35 ⊢
      clear d34
      have q0 := box_cellsR w35 [.int .i64 0, .int .i64 0, .slice RA 0 rc] 24 0 _ rfl
      have q1 := box_cellsR w35 [.int .i64 0, .int .i64 0, .slice RA 0 rc] 24 1 _ rfl
      have q2 := box_cellsR w35 [.int .i64 0, .int .i64 0, .slice RA 0 rc] 24 2 _ rfl
      have qb := below_alloc1 w35 (.cells #[.int .i64 0, .int .i64 0, .slice RA 0 rc] 24)
      have d36 := d35.below qb
      go_upto_region 27 with fail
      obtain ⟨w36, hw36⟩ : ∃ w36, w36 = w35.alloc (.cells #[.int .i64 0, .int .i64 0, .slice RA 0 rc] 24) := ⟨_, rfl⟩
      have hTw36 : (w35.alloc (.cells [Value.int .i64 0, .int .i64 0, .slice RA 0 rc].toArray 24)) = w36 := hw36.symm
      rw [hTw36] at q0 q1 q2
      rw [← hw36] at qb d36 ⊢
      clear hTw36 hw36
      clear d35 q0 q1 q2 qb
      have e36 := d36.nil.old (ρ := ⟨none, 0, 0, []⟩) (Sl.nil _ _)
      clear d36
      go_wp2_with fail
      refine (rwrite_m e36 0 0 (List.mem_cons_self ..) (by decide) xa5_write).mono ?_; rintro x w37 ⟨RA, rc, rfl, d37⟩
      clear e36
      simp only [rt0] at d37 ⊢
      have q0 := box_cellsR w37 [.int .i64 0, .int .i64 0, .slice RA 0 rc] 24 0 _ rfl
      have q1 := box_cellsR w37 [.int .i64 0, .int .i64 0, .slice RA 0 rc] 24 1 _ rfl
      have q2 := box_cellsR w37 [.int .i64 0, .int .i64 0, .slice RA 0 rc] 24 2 _ rfl
      have qb := below_alloc1 w37 (.cells #[.int .i64 0, .int .i64 0, .slice RA 0 rc] 24)
      have d38 := d37.below qb
      go_upto_region 28 with fail
      obtain ⟨w38, hw38⟩ : ∃ w38, w38 = w37.alloc (.cells #[.int .i64 0, .int .i64 0, .slice RA 0 rc] 24) := ⟨_, rfl⟩
      have hTw38 : (w37.alloc (.cells [Value.int .i64 0, .int .i64 0, .slice RA 0 rc].toArray 24)) = w38 := hw38.symm
      rw [hTw38] at q0 q1 q2
      rw [← hw38] at qb d38 ⊢
      clear hTw38 hw38
      clear d37 q0 q1 q2 qb
      have b26 := d38.bel
      have x18 := DF.out.below b26
      have k28 := d38.held (q := g28) (List.mem_cons_self ..)
      have k26 := d38.held (q := g26) (List.mem_cons_of_mem _ (List.mem_cons_self ..))
      have y18 := x18.cellK (q := g18) (j := 0) (List.mem_cons_self ..) rfl
      have xx := DF.out.addKs b26 [(g28, _), (g26, _)] (fun κ hk => by
        simp only [List.mem_cons, List.not_mem_nil, or_false] at hk
        rcases hk with rfl | rfl
        · exact ⟨HG28.out, k28⟩
        · exact ⟨HG26.out, k26⟩)
      have hci := is_m xx 1 0 [] (by decide)
      rw [na1_is] at hci
      clear xx x18 b26 k28 k26 d38
      go_wp2_with fail
      refine hci.mono ?_; rintro x w39 ⟨rfl, d39⟩
      have y28 := d39.cellK (q := g28) (j := 0) (List.mem_cons_self ..) rfl
      have y26 := d39.cellK (q := g26) (j := 0) (List.mem_cons_of_mem _ (List.mem_cons_self ..)) rfl
      have hbl := Lib.hid d39.bel
      clear hci y18 d39
      go_wp2_with fail
      refine (awake6_any w39).mono ?_; rintro e wz ⟨rfl, bz⟩
      go_wp2_with fail
      go_ret
      exact ⟨rfl, HB17.out.trans ((hbl.out.trans (bz.mono hbl.out.size)).mono HB17.out.size)⟩
end Go.Proofs.Ytemegkapmgcffaa
