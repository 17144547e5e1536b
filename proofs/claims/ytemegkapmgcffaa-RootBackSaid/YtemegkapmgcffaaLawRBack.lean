import Derived.Test.YtemegkapmgcffaaMRc
/- RootBack: the walk (under way). -/
namespace Go.Proofs.Ytemegkapmgcffaa
open Go.RowKit
set_option linter.unusedSimpArgs false
set_option linter.unusedVariables false

theorem bytesR_err {s b e : Int} {x bs : List UInt8} (h : bytesR s b x = (bs, e)) (he : e ≠ 0) : e = 2 ∧ bs = [] := by
  unfold bytesR at h
  split at h
  · simp only [Prod.mk.injEq] at h
    exact absurd h.2.symm he
  · simp only [Prod.mk.injEq] at h
    exact ⟨h.2.symm, h.1.symm⟩
theorem same_iff {s b s2 b2 : Int} {x y bs bt : List UInt8} (h1 : bytesR s b x = (bs, 0)) (h2 : bytesR s2 b2 y = (bt, 0)) : (decide (s = s2) && (decide (b = b2) && (x == y))) = (bs == bt) := by
  rw [Bool.eq_iff_iff]
  simp only [Bool.and_eq_true, decide_eq_true_eq, beq_iff_eq]
  constructor
  · rintro ⟨rfl, rfl, rfl⟩
    rw [h1] at h2
    simpa using h2
  · rintro rfl
    have g1 := bytes_parse h1
    rw [bytes_parse h2] at g1
    simp only [Prod.mk.injEq, Rt.mk.injEq, and_true] at g1
    exact ⟨g1.1.symm, g1.2.1.symm, g1.2.2.symm⟩
set_option maxRecDepth 100000 in
set_option maxHeartbeats 16000000 in
theorem back6_any (s b s2 b2 : Int) (A A2 A3 : Option Addr) (n c n2 c2 n3 c3 : Nat) (x y l : List UInt8) (W : World) (hx : Sl W 1 A n c (bytesV x)) (hy : Sl W 1 A2 n2 c2 (bytesV y)) (hl : Sl W 1 A3 n3 c3 (bytesV l)) :
    Calls Try.prog 6 #[.agg #[.int .i64 s, .int .i64 b, .slice A n c], .agg #[.int .i64 s2, .int .i64 b2, .slice A2 n2 c2], .slice A3 n3 c3] W fun e w' => e = .returned (.bool true) ∧ Below W.heap.size W w' := by
  obtain ⟨w1, hw1⟩ : ∃ w1, w1 = W.alloc (.cells (rtC s b A n c).toArray 24) := ⟨_, rfl⟩
  obtain ⟨w2, hw2⟩ : ∃ w2, w2 = w1.alloc (.cells (rtC s2 b2 A2 n2 c2).toArray 24) := ⟨_, rfl⟩
  have hb1 : Below W.heap.size W w1 := by rw [hw1]; exact below_alloc1 _ _
  have hb2 : Below w1.heap.size w1 w2 := by rw [hw2]; exact below_alloc1 _ _
  have hz1 : w1.heap.size = W.heap.size + 1 := by rw [hw1]; simp
  have hz2 : w2.heap.size = w1.heap.size + 1 := by rw [hw2]; simp
  have hb := hb1.trans (hb2.mono hb1.size)
  have key1 : ∀ w3, Below w2.heap.size w2 w3 → ∀ j u, (rtC s b A n c)[j]? = some u → w3.cell? ⟨W.heap.size, j, none⟩ = some u := fun w3 h3 j u hj => by
    have h1 : w1.cell? ⟨W.heap.size, j, none⟩ = some u := by rw [hw1]; exact box_cellsR W _ _ j u hj
    exact (World.cell?_of_block (h3.block _ (by show W.heap.size < _; omega))).trans ((World.cell?_of_block (hb2.block _ (by show W.heap.size < _; omega))).trans h1)
  have key2 : ∀ w3, Below w2.heap.size w2 w3 → ∀ j u, (rtC s2 b2 A2 n2 c2)[j]? = some u → w3.cell? ⟨W.heap.size + 1, j, none⟩ = some u := fun w3 h3 j u hj => by
    have h1 : w2.cell? ⟨w1.heap.size, j, none⟩ = some u := by rw [hw2]; exact box_cellsR w1 _ _ j u hj
    rw [← hz1]
    exact (World.cell?_of_block (h3.block _ (by show w1.heap.size < _; omega))).trans h1
  have K1 := Lib.hid key1
  have K2 := Lib.hid key2
  have eW : (W.alloc (.cells #[.int .i64 s, .int .i64 b, .slice A n c] 24)).alloc (.cells #[.int .i64 s2, .int .i64 b2, .slice A2 n2 c2] 24) = w2 := by rw [hw2, hw1]; rfl
  have HB := Lib.hid hb
  have HX := Lib.hid (hx.below hb)
  have HY := Lib.hid (hy.below hb)
  have HL := Lib.hid (hl.below hb)
  have HXl := Lib.hid (show bytesV x ≠ [] → ∀ a, A = some a → a.block < w2.heap.size from fun hne a ha => by
    obtain ⟨v, t, hv⟩ := List.exists_cons_of_ne_nil hne
    obtain ⟨ad, h6, h7⟩ := (hx.below hb).cells 0 v (by rw [hv]; rfl)
    rw [ha] at h6
    cases h6
    have h8 := World.block_lt_of_cell? _ _ h7
    rwa [add_block] at h8)
  have HYl := Lib.hid (show bytesV y ≠ [] → ∀ a, A2 = some a → a.block < w2.heap.size from fun hne a ha => by
    obtain ⟨v, t, hv⟩ := List.exists_cons_of_ne_nil hne
    obtain ⟨ad, h6, h7⟩ := (hy.below hb).cells 0 v (by rw [hv]; rfl)
    rw [ha] at h6
    cases h6
    have h8 := World.block_lt_of_cell? _ _ h7
    rwa [add_block] at h8)
  have a2 := key1 w2 (Below.refl _ _) 2 _ rfl
  have d2 := key2 w2 (Below.refl _ _) 2 _ rfl
  clear key1 key2 hb hb1 hb2 hw1 hw2 hx hy hl hz1 hz2
  go_enter Try.func6, Try.ntmps6
  go_upto_region 1 with fail
  clear eW
  by_cases h1 : n ≤ 500 ∧ n2 ≤ 500 ∧ n3 ≤ 1000
  · obtain ⟨i1, i2, i3⟩ := h1
    have j1 : ¬ (500 : Int) < (n : Int) := by omega
    have j2 : ¬ (500 : Int) < (n2 : Int) := by omega
    have j3 : ¬ (1000 : Int) < (n3 : Int) := by omega
    have hpc := Parse_any A3 n3 c3 l w2 HL.out (by omega)
    obtain ⟨q, pe, hpf⟩ : ∃ q pe, parseF l = (q, pe) := ⟨_, _, rfl⟩
    rw [hpf] at hpc
    go_wp2_with fail
    refine hpc.mono ?_; rintro e w3 ⟨A4, c4, rfl, p4, b4⟩
    simp only [rtV]
    have BW3 := Lib.hid b4
    have q0 := box_cellsR w3 [.int .i64 q.s, .int .i64 q.b, .slice A4 q.x.length c4] 24 0 _ rfl
    have q1 := box_cellsR w3 [.int .i64 q.s, .int .i64 q.b, .slice A4 q.x.length c4] 24 1 _ rfl
    have q2 := box_cellsR w3 [.int .i64 q.s, .int .i64 q.b, .slice A4 q.x.length c4] 24 2 _ rfl
    have b34 := below_alloc1 w3 (.cells #[.int .i64 q.s, .int .i64 q.b, .slice A4 q.x.length c4] 24)
    clear hpc
    go_upto_region 4 with fail
    obtain ⟨w4, hw4⟩ : ∃ w4, w4 = w3.alloc (.cells #[.int .i64 q.s, .int .i64 q.b, .slice A4 q.x.length c4] 24) := ⟨_, rfl⟩
    have hT4 : (w3.alloc (.cells [Value.int .i64 q.s, .int .i64 q.b, .slice A4 q.x.length c4].toArray 24)) = w4 := hw4.symm
    rw [hT4] at q0 q1 q2
    rw [← hw4] at b34 ⊢
    have B4 := Lib.hid (b4.trans (b34.mono b4.size))
    have P4 := Lib.hid (Own.below p4 b34)
    clear b4 b34 p4 hw4 hT4
    by_cases hpe : pe = 0
    · subst hpe
      have hby := Bytes_any q.s q.b A4 q.x.length c4 q.x w4 P4.out.sl (fun _ a ha => (own_ltR P4.out a ha).2)
      rw [parse_bytes hpf] at hby
      go_wp2_with fail
      refine hby.mono ?_; rintro e w5 ⟨A5, c5, rfl, o5, b5⟩
      have B5 := Lib.hid (B4.out.trans (b5.mono B4.out.size))
      have hsb := sameBytes_any A5 A3 l.length c5 n3 c3 l l w5 o5.sl (HL.out.below B5.out)
      clear hby q0 q1 q2
      go_wp2_with fail
      refine hsb.mono ?_; rintro e w6 ⟨rfl, rfl⟩
      have hll : (l == l) = true := by simp
      clear hsb
      rw [hll]
      have z0 := K1.out w5 B5.out 0 _ rfl
      have z1 := K1.out w5 B5.out 1 _ rfl
      have z2 := K1.out w5 B5.out 2 _ rfl
      obtain ⟨bs, e1, hb1⟩ : ∃ bs e1, bytesR s b x = (bs, e1) := ⟨_, _, rfl⟩
      have hc1 := Bytes_any s b A n c x w5 (HX.out.below B5.out) (fun hne a ha => Nat.lt_of_lt_of_le (HXl.out hne a ha) B5.out.size)
      rw [hb1] at hc1
      have HB1 := Lib.hid hb1
      clear hb1
      go_wp2_with fail
      refine hc1.mono ?_; rintro e w7 ⟨A7, c7, rfl, o7, b7⟩
      clear hc1 z0 z1 z2
      have B7 := Lib.hid (B5.out.trans (b7.mono B5.out.size))
      have z0 := K2.out w7 B7.out 0 _ rfl
      have z1 := K2.out w7 B7.out 1 _ rfl
      have z2 := K2.out w7 B7.out 2 _ rfl
      obtain ⟨bt, e2, hb2⟩ : ∃ bt e2, bytesR s2 b2 y = (bt, e2) := ⟨_, _, rfl⟩
      have hc2 := Bytes_any s2 b2 A2 n2 c2 y w7 (HY.out.below B7.out) (fun hne a ha => Nat.lt_of_lt_of_le (HYl.out hne a ha) B7.out.size)
      rw [hb2] at hc2
      have HB2 := Lib.hid hb2
      clear hb2
      go_wp2_with fail
      refine hc2.mono ?_; rintro e w8 ⟨A8, c8, rfl, o8, b8⟩
      clear hc2 z0 z1 z2
      have B8 := Lib.hid (B7.out.trans (b8.mono B7.out.size))
      have O7 := Lib.hid (Own.below o7 b8)
      have O8 := Lib.hid o8
      clear o7 o8 b8 b7
      by_cases he1 : e1 = 0
      · subst he1
        by_cases he2 : e2 = 0
        · subst he2
          have z0 := K1.out w8 B8.out 0 _ rfl
          have z1 := K1.out w8 B8.out 1 _ rfl
          have z2 := K1.out w8 B8.out 2 _ rfl
          have y0 := K2.out w8 B8.out 0 _ rfl
          have y1 := K2.out w8 B8.out 1 _ rfl
          have y2 := K2.out w8 B8.out 2 _ rfl
          have hsr := sameRoot_any s b s2 b2 A A2 n c n2 c2 x y w8 (HX.out.below B8.out) (HY.out.below B8.out)
          obtain ⟨zz, hzz⟩ : ∃ zz, zz = (bs == bt) := ⟨_, rfl⟩
          rw [same_iff HB1.out HB2.out, ← hzz] at hsr
          have HZZ := Lib.hid hzz
          clear hzz
          go_wp2_with fail
          refine hsr.mono ?_; rintro e w9 ⟨rfl, b9⟩
          clear hsr z0 z1 z2 y0 y1 y2
          have hsb := sameBytes_any A7 A8 bs.length c7 bt.length c8 bs bt w9 (O7.out.below b9).sl (O8.out.below b9).sl
          rw [← HZZ.out] at hsb
          go_wp2_with fail
          refine hsb.mono ?_; rintro e wb ⟨rfl, rfl⟩
          have B9 := Lib.hid (B8.out.trans (b9.mono B8.out.size))
          have O9 := Lib.hid (O7.out.below b9)
          clear hsb b9 HZZ
          cases zz with
          | false =>
            have hp9 := Parse_any A7 bs.length c7 bs w9 O9.out.sl (by have := bytesR_len s b x; rw [HB1.out] at this; simp only at this; omega)
            rw [bytes_parse HB1.out] at hp9
            go_wp2_with fail
            refine hp9.mono ?_; rintro e wa ⟨Aa, ca, rfl, pa, ba⟩
            simp only [rtV]
            clear hp9
            have q0 := box_cellsR wa [.int .i64 s, .int .i64 b, .slice Aa x.length ca] 24 0 _ rfl
            have q1 := box_cellsR wa [.int .i64 s, .int .i64 b, .slice Aa x.length ca] 24 1 _ rfl
            have q2 := box_cellsR wa [.int .i64 s, .int .i64 b, .slice Aa x.length ca] 24 2 _ rfl
            have bac := below_alloc1 wa (.cells #[.int .i64 s, .int .i64 b, .slice Aa x.length ca] 24)
            go_upto_region 15 with fail
            obtain ⟨wc, hwc⟩ : ∃ wc, wc = wa.alloc (.cells #[.int .i64 s, .int .i64 b, .slice Aa x.length ca] 24) := ⟨_, rfl⟩
            have hTc : (wa.alloc (.cells [Value.int .i64 s, .int .i64 b, .slice Aa x.length ca].toArray 24)) = wc := hwc.symm
            rw [hTc] at q0 q1 q2
            rw [← hwc] at bac ⊢
            have Bc := Lib.hid (B9.out.trans ((ba.trans (bac.mono ba.size)).mono B9.out.size))
            have z0 := K1.out wc Bc.out 0 _ rfl
            have z1 := K1.out wc Bc.out 1 _ rfl
            have z2 := K1.out wc Bc.out 2 _ rfl
            have hss := sameRoot_any s b s b Aa A x.length ca n c x x wc (Own.below pa bac).sl (HX.out.below Bc.out)
            have htt : (decide (s = s) && (decide (b = b) && (x == x))) = true := by simp
            rw [htt] at hss
            clear pa ba bac hwc hTc htt
            go_wp2_with fail
            refine hss.mono ?_; rintro e wd ⟨rfl, bd⟩
            clear hss q0 q1 q2 z0 z1 z2
            go_wp2_with fail
            refine (awake6_any wd).mono ?_; rintro e wz ⟨rfl, bz⟩
            go_wp2_with fail
            go_ret
            exact ⟨rfl, HB.out.trans ((Bc.out.trans ((bd.trans (bz.mono bd.size)).mono Bc.out.size)).mono HB.out.size)⟩
          | true =>
            have hp9 := Parse_any A7 bs.length c7 bs w9 O9.out.sl (by have := bytesR_len s b x; rw [HB1.out] at this; simp only at this; omega)
            rw [bytes_parse HB1.out] at hp9
            go_wp2_with fail
            refine hp9.mono ?_; rintro e wa ⟨Aa, ca, rfl, pa, ba⟩
            simp only [rtV]
            clear hp9
            have q0 := box_cellsR wa [.int .i64 s, .int .i64 b, .slice Aa x.length ca] 24 0 _ rfl
            have q1 := box_cellsR wa [.int .i64 s, .int .i64 b, .slice Aa x.length ca] 24 1 _ rfl
            have q2 := box_cellsR wa [.int .i64 s, .int .i64 b, .slice Aa x.length ca] 24 2 _ rfl
            have bac := below_alloc1 wa (.cells #[.int .i64 s, .int .i64 b, .slice Aa x.length ca] 24)
            go_upto_region 15 with fail
            obtain ⟨wc, hwc⟩ : ∃ wc, wc = wa.alloc (.cells #[.int .i64 s, .int .i64 b, .slice Aa x.length ca] 24) := ⟨_, rfl⟩
            have hTc : (wa.alloc (.cells [Value.int .i64 s, .int .i64 b, .slice Aa x.length ca].toArray 24)) = wc := hwc.symm
            rw [hTc] at q0 q1 q2
            rw [← hwc] at bac ⊢
            have Bc := Lib.hid (B9.out.trans ((ba.trans (bac.mono ba.size)).mono B9.out.size))
            have z0 := K1.out wc Bc.out 0 _ rfl
            have z1 := K1.out wc Bc.out 1 _ rfl
            have z2 := K1.out wc Bc.out 2 _ rfl
            have hss := sameRoot_any s b s b Aa A x.length ca n c x x wc (Own.below pa bac).sl (HX.out.below Bc.out)
            have htt : (decide (s = s) && (decide (b = b) && (x == x))) = true := by simp
            rw [htt] at hss
            clear pa ba bac hwc hTc htt
            go_wp2_with fail
            refine hss.mono ?_; rintro e wd ⟨rfl, bd⟩
            clear hss q0 q1 q2 z0 z1 z2
            go_wp2_with fail
            refine (awake6_any wd).mono ?_; rintro e wz ⟨rfl, bz⟩
            go_wp2_with fail
            go_ret
            exact ⟨rfl, HB.out.trans ((Bc.out.trans ((bd.trans (bz.mono bd.size)).mono Bc.out.size)).mono HB.out.size)⟩
        · have he22 : (e2 == 0) = false := by simpa using he2
          clear he2
          have hp9 := Parse_any A7 bs.length c7 bs w8 O7.out.sl (by have := bytesR_len s b x; rw [HB1.out] at this; simp only at this; omega)
          rw [bytes_parse HB1.out] at hp9
          go_wp2_with fail
          refine hp9.mono ?_; rintro e wa ⟨Aa, ca, rfl, pa, ba⟩
          simp only [rtV]
          clear hp9
          have q0 := box_cellsR wa [.int .i64 s, .int .i64 b, .slice Aa x.length ca] 24 0 _ rfl
          have q1 := box_cellsR wa [.int .i64 s, .int .i64 b, .slice Aa x.length ca] 24 1 _ rfl
          have q2 := box_cellsR wa [.int .i64 s, .int .i64 b, .slice Aa x.length ca] 24 2 _ rfl
          have bac := below_alloc1 wa (.cells #[.int .i64 s, .int .i64 b, .slice Aa x.length ca] 24)
          go_upto_region 15 with fail
          obtain ⟨wc, hwc⟩ : ∃ wc, wc = wa.alloc (.cells #[.int .i64 s, .int .i64 b, .slice Aa x.length ca] 24) := ⟨_, rfl⟩
          have hTc : (wa.alloc (.cells [Value.int .i64 s, .int .i64 b, .slice Aa x.length ca].toArray 24)) = wc := hwc.symm
          rw [hTc] at q0 q1 q2
          rw [← hwc] at bac ⊢
          have Bc := Lib.hid (B8.out.trans ((ba.trans (bac.mono ba.size)).mono B8.out.size))
          have z0 := K1.out wc Bc.out 0 _ rfl
          have z1 := K1.out wc Bc.out 1 _ rfl
          have z2 := K1.out wc Bc.out 2 _ rfl
          have hss := sameRoot_any s b s b Aa A x.length ca n c x x wc (Own.below pa bac).sl (HX.out.below Bc.out)
          have htt : (decide (s = s) && (decide (b = b) && (x == x))) = true := by simp
          rw [htt] at hss
          clear pa ba bac hwc hTc htt
          go_wp2_with fail
          refine hss.mono ?_; rintro e wd ⟨rfl, bd⟩
          clear hss q0 q1 q2 z0 z1 z2
          go_wp2_with fail
          refine (awake6_any wd).mono ?_; rintro e wz ⟨rfl, bz⟩
          go_wp2_with fail
          go_ret
          exact ⟨rfl, HB.out.trans ((Bc.out.trans ((bd.trans (bz.mono bd.size)).mono Bc.out.size)).mono HB.out.size)⟩
      · obtain ⟨rfl, rfl⟩ := bytesR_err HB1.out he1
        clear he1
        go_wp2_with fail
        refine (awake6_any w8).mono ?_; rintro e wz ⟨rfl, bz⟩
        go_wp2_with fail
        go_ret
        exact ⟨rfl, HB.out.trans ((B8.out.trans (bz.mono B8.out.size)).mono HB.out.size)⟩
    · have hpe2 : (pe == 0) = false := by simpa using hpe
      clear hpe q0 q1 q2
      have z0 := K1.out w4 B4.out 0 _ rfl
      have z1 := K1.out w4 B4.out 1 _ rfl
      have z2 := K1.out w4 B4.out 2 _ rfl
      obtain ⟨bs, e1, hb1⟩ : ∃ bs e1, bytesR s b x = (bs, e1) := ⟨_, _, rfl⟩
      have hc1 := Bytes_any s b A n c x w4 (HX.out.below B4.out) (fun hne a ha => Nat.lt_of_lt_of_le (HXl.out hne a ha) B4.out.size)
      rw [hb1] at hc1
      have HB1 := Lib.hid hb1
      clear hb1
      go_wp2_with fail
      refine hc1.mono ?_; rintro e w7 ⟨A7, c7, rfl, o7, b7⟩
      clear hc1 z0 z1 z2
      have B7 := Lib.hid (B4.out.trans (b7.mono B4.out.size))
      have z0 := K2.out w7 B7.out 0 _ rfl
      have z1 := K2.out w7 B7.out 1 _ rfl
      have z2 := K2.out w7 B7.out 2 _ rfl
      obtain ⟨bt, e2, hb2⟩ : ∃ bt e2, bytesR s2 b2 y = (bt, e2) := ⟨_, _, rfl⟩
      have hc2 := Bytes_any s2 b2 A2 n2 c2 y w7 (HY.out.below B7.out) (fun hne a ha => Nat.lt_of_lt_of_le (HYl.out hne a ha) B7.out.size)
      rw [hb2] at hc2
      have HB2 := Lib.hid hb2
      clear hb2
      go_wp2_with fail
      refine hc2.mono ?_; rintro e w8 ⟨A8, c8, rfl, o8, b8⟩
      clear hc2 z0 z1 z2
      have B8 := Lib.hid (B7.out.trans (b8.mono B7.out.size))
      have O7 := Lib.hid (Own.below o7 b8)
      have O8 := Lib.hid o8
      clear o7 o8 b8 b7
      by_cases he1 : e1 = 0
      · subst he1
        by_cases he2 : e2 = 0
        · subst he2
          have z0 := K1.out w8 B8.out 0 _ rfl
          have z1 := K1.out w8 B8.out 1 _ rfl
          have z2 := K1.out w8 B8.out 2 _ rfl
          have y0 := K2.out w8 B8.out 0 _ rfl
          have y1 := K2.out w8 B8.out 1 _ rfl
          have y2 := K2.out w8 B8.out 2 _ rfl
          have hsr := sameRoot_any s b s2 b2 A A2 n c n2 c2 x y w8 (HX.out.below B8.out) (HY.out.below B8.out)
          obtain ⟨zz, hzz⟩ : ∃ zz, zz = (bs == bt) := ⟨_, rfl⟩
          rw [same_iff HB1.out HB2.out, ← hzz] at hsr
          have HZZ := Lib.hid hzz
          clear hzz
          go_wp2_with fail
          refine hsr.mono ?_; rintro e w9 ⟨rfl, b9⟩
          clear hsr z0 z1 z2 y0 y1 y2
          have hsb := sameBytes_any A7 A8 bs.length c7 bt.length c8 bs bt w9 (O7.out.below b9).sl (O8.out.below b9).sl
          rw [← HZZ.out] at hsb
          go_wp2_with fail
          refine hsb.mono ?_; rintro e wb ⟨rfl, rfl⟩
          have B9 := Lib.hid (B8.out.trans (b9.mono B8.out.size))
          have O9 := Lib.hid (O7.out.below b9)
          clear hsb b9 HZZ
          cases zz with
          | false =>
            have hp9 := Parse_any A7 bs.length c7 bs w9 O9.out.sl (by have := bytesR_len s b x; rw [HB1.out] at this; simp only at this; omega)
            rw [bytes_parse HB1.out] at hp9
            go_wp2_with fail
            refine hp9.mono ?_; rintro e wa ⟨Aa, ca, rfl, pa, ba⟩
            simp only [rtV]
            clear hp9
            have q0 := box_cellsR wa [.int .i64 s, .int .i64 b, .slice Aa x.length ca] 24 0 _ rfl
            have q1 := box_cellsR wa [.int .i64 s, .int .i64 b, .slice Aa x.length ca] 24 1 _ rfl
            have q2 := box_cellsR wa [.int .i64 s, .int .i64 b, .slice Aa x.length ca] 24 2 _ rfl
            have bac := below_alloc1 wa (.cells #[.int .i64 s, .int .i64 b, .slice Aa x.length ca] 24)
            go_upto_region 15 with fail
            obtain ⟨wc, hwc⟩ : ∃ wc, wc = wa.alloc (.cells #[.int .i64 s, .int .i64 b, .slice Aa x.length ca] 24) := ⟨_, rfl⟩
            have hTc : (wa.alloc (.cells [Value.int .i64 s, .int .i64 b, .slice Aa x.length ca].toArray 24)) = wc := hwc.symm
            rw [hTc] at q0 q1 q2
            rw [← hwc] at bac ⊢
            have Bc := Lib.hid (B9.out.trans ((ba.trans (bac.mono ba.size)).mono B9.out.size))
            have z0 := K1.out wc Bc.out 0 _ rfl
            have z1 := K1.out wc Bc.out 1 _ rfl
            have z2 := K1.out wc Bc.out 2 _ rfl
            have hss := sameRoot_any s b s b Aa A x.length ca n c x x wc (Own.below pa bac).sl (HX.out.below Bc.out)
            have htt : (decide (s = s) && (decide (b = b) && (x == x))) = true := by simp
            rw [htt] at hss
            clear pa ba bac hwc hTc htt
            go_wp2_with fail
            refine hss.mono ?_; rintro e wd ⟨rfl, bd⟩
            clear hss q0 q1 q2 z0 z1 z2
            go_wp2_with fail
            refine (awake6_any wd).mono ?_; rintro e wz ⟨rfl, bz⟩
            go_wp2_with fail
            go_ret
            exact ⟨rfl, HB.out.trans ((Bc.out.trans ((bd.trans (bz.mono bd.size)).mono Bc.out.size)).mono HB.out.size)⟩
          | true =>
            have hp9 := Parse_any A7 bs.length c7 bs w9 O9.out.sl (by have := bytesR_len s b x; rw [HB1.out] at this; simp only at this; omega)
            rw [bytes_parse HB1.out] at hp9
            go_wp2_with fail
            refine hp9.mono ?_; rintro e wa ⟨Aa, ca, rfl, pa, ba⟩
            simp only [rtV]
            clear hp9
            have q0 := box_cellsR wa [.int .i64 s, .int .i64 b, .slice Aa x.length ca] 24 0 _ rfl
            have q1 := box_cellsR wa [.int .i64 s, .int .i64 b, .slice Aa x.length ca] 24 1 _ rfl
            have q2 := box_cellsR wa [.int .i64 s, .int .i64 b, .slice Aa x.length ca] 24 2 _ rfl
            have bac := below_alloc1 wa (.cells #[.int .i64 s, .int .i64 b, .slice Aa x.length ca] 24)
            go_upto_region 15 with fail
            obtain ⟨wc, hwc⟩ : ∃ wc, wc = wa.alloc (.cells #[.int .i64 s, .int .i64 b, .slice Aa x.length ca] 24) := ⟨_, rfl⟩
            have hTc : (wa.alloc (.cells [Value.int .i64 s, .int .i64 b, .slice Aa x.length ca].toArray 24)) = wc := hwc.symm
            rw [hTc] at q0 q1 q2
            rw [← hwc] at bac ⊢
            have Bc := Lib.hid (B9.out.trans ((ba.trans (bac.mono ba.size)).mono B9.out.size))
            have z0 := K1.out wc Bc.out 0 _ rfl
            have z1 := K1.out wc Bc.out 1 _ rfl
            have z2 := K1.out wc Bc.out 2 _ rfl
            have hss := sameRoot_any s b s b Aa A x.length ca n c x x wc (Own.below pa bac).sl (HX.out.below Bc.out)
            have htt : (decide (s = s) && (decide (b = b) && (x == x))) = true := by simp
            rw [htt] at hss
            clear pa ba bac hwc hTc htt
            go_wp2_with fail
            refine hss.mono ?_; rintro e wd ⟨rfl, bd⟩
            clear hss q0 q1 q2 z0 z1 z2
            go_wp2_with fail
            refine (awake6_any wd).mono ?_; rintro e wz ⟨rfl, bz⟩
            go_wp2_with fail
            go_ret
            exact ⟨rfl, HB.out.trans ((Bc.out.trans ((bd.trans (bz.mono bd.size)).mono Bc.out.size)).mono HB.out.size)⟩
        · have he22 : (e2 == 0) = false := by simpa using he2
          clear he2
          have hp9 := Parse_any A7 bs.length c7 bs w8 O7.out.sl (by have := bytesR_len s b x; rw [HB1.out] at this; simp only at this; omega)
          rw [bytes_parse HB1.out] at hp9
          go_wp2_with fail
          refine hp9.mono ?_; rintro e wa ⟨Aa, ca, rfl, pa, ba⟩
          simp only [rtV]
          clear hp9
          have q0 := box_cellsR wa [.int .i64 s, .int .i64 b, .slice Aa x.length ca] 24 0 _ rfl
          have q1 := box_cellsR wa [.int .i64 s, .int .i64 b, .slice Aa x.length ca] 24 1 _ rfl
          have q2 := box_cellsR wa [.int .i64 s, .int .i64 b, .slice Aa x.length ca] 24 2 _ rfl
          have bac := below_alloc1 wa (.cells #[.int .i64 s, .int .i64 b, .slice Aa x.length ca] 24)
          go_upto_region 15 with fail
          obtain ⟨wc, hwc⟩ : ∃ wc, wc = wa.alloc (.cells #[.int .i64 s, .int .i64 b, .slice Aa x.length ca] 24) := ⟨_, rfl⟩
          have hTc : (wa.alloc (.cells [Value.int .i64 s, .int .i64 b, .slice Aa x.length ca].toArray 24)) = wc := hwc.symm
          rw [hTc] at q0 q1 q2
          rw [← hwc] at bac ⊢
          have Bc := Lib.hid (B8.out.trans ((ba.trans (bac.mono ba.size)).mono B8.out.size))
          have z0 := K1.out wc Bc.out 0 _ rfl
          have z1 := K1.out wc Bc.out 1 _ rfl
          have z2 := K1.out wc Bc.out 2 _ rfl
          have hss := sameRoot_any s b s b Aa A x.length ca n c x x wc (Own.below pa bac).sl (HX.out.below Bc.out)
          have htt : (decide (s = s) && (decide (b = b) && (x == x))) = true := by simp
          rw [htt] at hss
          clear pa ba bac hwc hTc htt
          go_wp2_with fail
          refine hss.mono ?_; rintro e wd ⟨rfl, bd⟩
          clear hss q0 q1 q2 z0 z1 z2
          go_wp2_with fail
          refine (awake6_any wd).mono ?_; rintro e wz ⟨rfl, bz⟩
          go_wp2_with fail
          go_ret
          exact ⟨rfl, HB.out.trans ((Bc.out.trans ((bd.trans (bz.mono bd.size)).mono Bc.out.size)).mono HB.out.size)⟩
      · obtain ⟨rfl, rfl⟩ := bytesR_err HB1.out he1
        clear he1
        go_wp2_with fail
        refine (awake6_any w8).mono ?_; rintro e wz ⟨rfl, bz⟩
        go_wp2_with fail
        go_ret
        exact ⟨rfl, HB.out.trans ((B8.out.trans (bz.mono B8.out.size)).mono HB.out.size)⟩
  · by_cases g1 : n ≤ 500
    · by_cases g2 : n2 ≤ 500
      · have j1 : ¬ (500 : Int) < (n : Int) := by omega
        have j2 : ¬ (500 : Int) < (n2 : Int) := by omega
        have j3 : (1000 : Int) < (n3 : Int) := by omega
        go_wp2_with fail
        refine (awake6_any w2).mono ?_; rintro e w3 ⟨rfl, b3⟩
        go_wp2_with fail
        go_ret
        exact ⟨rfl, HB.out.trans (b3.mono HB.out.size)⟩
      · have j1 : ¬ (500 : Int) < (n : Int) := by omega
        have j2 : (500 : Int) < (n2 : Int) := by omega
        go_wp2_with fail
        refine (awake6_any w2).mono ?_; rintro e w3 ⟨rfl, b3⟩
        go_wp2_with fail
        go_ret
        exact ⟨rfl, HB.out.trans (b3.mono HB.out.size)⟩
    · have j1 : (500 : Int) < (n : Int) := by omega
      go_wp2_with fail
      refine (awake6_any w2).mono ?_; rintro e w3 ⟨rfl, b3⟩
      go_wp2_with fail
      go_ret
      exact ⟨rfl, HB.out.trans (b3.mono HB.out.size)⟩
end Go.Proofs.Ytemegkapmgcffaa
