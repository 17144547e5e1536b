import Derived.Test.YtcidifmikcnkcaaT8
import Derived.Test.YtcidifmikcnkcaaRingN
import Derived.Lib.MinMax
import Derived.Deep.CutBlock
import Derived.Deep.DeepCutAuto
/- RingPlays: the walk (printed by wip/gen/gplays8.py). -/
namespace Go.Proofs.Ytcidifmikcnkcaa
open Go.RowKit
set_option linter.unusedSimpArgs false
set_option linter.unusedVariables false

set_option maxRecDepth 100000 in
set_option maxHeartbeats 16000000 in
theorem rplays_any {W : World} {A0 : Option Addr} {n0 c0 : Nat} {os : List Opn} {most : Int} (s : Sl W 3 A0 n0 c0 (flatO os)) (ok : OkO os) (hn : n0 ≤ 9223372036854775807) :
    Calls Try.prog 4 #[.int .i64 most, .slice A0 n0 c0] W fun x w' => x = .returned (.bool true) ∧ Below W.heap.size W w' := by
  have hln := slO_len s
  have S := Lib.hid s
  have OK := Lib.hid ok
  have Hln := Lib.hid hln
  clear s ok hln
  have hc1 := New_lab W most
  have hc2 := fun w => r8New_any most w
  by_cases hm : 1 ≤ most ∧ most ≤ 65536
  · simp only [if_pos hm] at hc1 hc2
    have HM := Lib.hid hm
    clear hm
    go_enter Try.func4, Try.ntmps4
    go_wp2_with fail
    refine hc1.mono ?_; rintro x w1 ⟨⟨p, rfl, lab0, hr, hlb⟩, k3⟩
    clear hc1
    go_wp2_with fail
    refine (hc2 w1).mono ?_; rintro x w2 ⟨rfl, k4⟩
    clear hc2
    have hbx := below_alloc1 w2 (.cells #[.int .i64 most, .slice none 0 0] 39)
    have obx := new_own w2 [.int .i64 most, .slice none 0 0] 39 2 rfl (by unfold maxLen; omega)
    have HT := Lib.hid (show T8 W (w2.alloc (.cells #[.int .i64 most, .slice none 0 0] 39)) p w2.heap.size most [] [] lab0 none 0 0 [] [] from
      ⟨(hr.below k4).below hbx, (k3.trans (k4.mono k3.size)).trans (hbx.mono (Nat.le_trans k3.size k4.size)), ⟨⟨fun j u hj => (by simp [flatQE] at hj), rfl, Nat.le_refl _, fun _ => ⟨rfl, rfl⟩⟩, fun h => absurd rfl h, fun e he => (by cases he)⟩, rfl, Own.lower obx (Nat.le_trans k3.size k4.size), (hr.below k4).labN (Nat.le_refl _), fun κ hk => (by cases hk)⟩)
    clear hbx obx hr hlb k3 k4
    obtain ⟨B, hB⟩ : ∃ B, B = w2.heap.size := ⟨_, rfl⟩
    rw [← hB] at HT
    go_upto_region 3 with fail
    obtain ⟨w3, hw3⟩ : ∃ w3, w3 = w2.alloc (.cells #[.int .i64 most, .slice none 0 0] 39) := ⟨_, rfl⟩
    rw [← hw3] at HT ⊢
    rw [← hB]
    clear hw3 hB
    go_wp2_with fail
    go_loopw [9] (fun s9 wx => ∃ (i : Nat) (qs P : List (Nm × Qu)) (lab : Nat → Option Lab) (A : Option Addr) (n c : Nat) (es : List QE), i ≤ n0 ∧ i ≤ 200 ∧ s9 = .int .i64 (i : Int) ∧ Hid (Twin qs P) ∧ Hid (SrtP P) ∧ Hid (qs.length ≤ i ∧ P.length ≤ i) ∧ Hid (Few8 P most i) ∧ Hid (T8 W wx p B most qs P lab A n c es [])) (fun iv _ => 200 - (intOf iv).toNat)
    case atStart => exact ⟨0, [], [], lab0, none, 0, 0, [], by omega, by omega, rfl, Lib.hid (fun _ => rfl), Lib.hid List.Pairwise.nil, Lib.hid ⟨Nat.le_refl _, Nat.le_refl _⟩, Lib.hid (fun nm => by
      have := HM.out
      unfold getQ
      rw [lk_nil]
      simp only [Option.getD_none, List.length_nil]
      split <;> omega), HT⟩
    case round =>
      obtain ⟨i, qs, P, lab, A, n, c, es, hi, hi200, rfl, TW, HSRT, HLn, HFew, H⟩ := hrel
      by_cases hgo : (i : Int) < (n0 : Int) ∧ (i : Int) < 200
      · obtain ⟨hgo1, hgo2⟩ := hgo
        obtain ⟨d, hd⟩ := get_some os i (by rw [Hln.out]; omega)
        have hs := S.out.below H.out.bel
        obtain ⟨ad, rfl⟩ := slO_addr hs hd
        obtain ⟨y0, y1, y2⟩ := slO_three hs hd
        have hin : (0 : Int) ≤ (i : Int) ∧ (i : Int) < (n0 : Int) := by omega
        have Hd := Lib.hid (OK.out d (List.mem_of_getElem? hd))
        have H1 := Lib.hid (H.out.alloc (.cells #[.int .i64 d.K, .int .i64 d.N, .string (bstr d.S)] 43))
        have c0 := H1.out.cellK (List.mem_cons_self ..) (j := 0) rfl
        have c1 := H1.out.cellK (List.mem_cons_self ..) (j := 1) rfl
        have c2 := H1.out.cellK (List.mem_cons_self ..) (j := 2) rfl
        have hsz : (bstr d.S).size = d.S.length := rfl
        clear hs hd
        go_upto_region 9 with fail
        obtain ⟨w1, hw1⟩ : ∃ w1, w1 = wr.alloc (.cells #[.int .i64 d.K, .int .i64 d.N, .string (bstr d.S)] 43) := ⟨_, rfl⟩
        rw [← hw1] at H1 c0 c1 c2 ⊢
        obtain ⟨qo, hqo⟩ : ∃ qo, qo = wr.heap.size := ⟨_, rfl⟩
        rw [← hqo] at H1 c0 c1 c2 ⊢
        clear hw1 hqo y0 y1 y2 H
        by_cases hbig : (60 : Int) < (d.S.length : Int)
        · go_wp2_with fail
          go_roundw
          case rel => exact ⟨i + 1, qs, P, lab, A, n, c, es, by omega, by omega, by go_num, TW, HSRT, Lib.hid (by have := HLn.out; omega), Lib.hid (HFew.out.mono (by omega)), Lib.hid (H1.out.subK (fun κ hk => by cases hk))⟩
          case measure => simp [intOf]; omega
        · have HNL := Lib.hid Hd.out.1
          have hmo : 0 ≤ most ∧ most ≤ 65536 := by have := HM.out; omega
          have HMo := Lib.hid hmo
          have Hqs := Lib.hid (show qs.length < 1000 ∧ P.length < 1000 ∧ qs.length ≤ 100000 by have := HLn.out; omega)
          clear hmo
          obtain ⟨kk, hkk⟩ : ∃ kk, kk = d.K := ⟨_, rfl⟩
          rw [← hkk] at c0
          clear hkk
          go_upto_block 2 with fail
          clear hbig
          go_cut [11, 12, 13, 14, 15, 16] (fun s11 s12 s13 s14 s15 s16 wx => ∃ (e n2 : Int) (ok : Bool) (qs2 P2 : List (Nm × Qu)) (lab2 : Nat → Option Lab) (A3 : Option Addr) (n3 c3 : Nat) (es3 : List QE), s11 = .int .i64 e ∧ s12 = .int .i64 e ∧ s13 = .int .i64 n2 ∧ s14 = .int .i64 n2 ∧ s15 = .bool ok ∧ s16 = .bool ok ∧ Hid (Twin qs2 P2) ∧ Hid (SrtP P2) ∧ Hid (qs2.length ≤ i + 1 ∧ P2.length ≤ i + 1) ∧ Hid (Few8 P2 most (i + 1)) ∧ Hid (T8 W wx p B most qs2 P2 lab2 A3 n3 c3 es3 [(qo, Obj.cells #[.int .i64 d.K, .int .i64 d.N, .string (bstr d.S)] 43)]))
          case rest =>
            as_aux_lemma =>
              obtain ⟨e, n2, okk, qs2, P2, lab2, A3, n3, c3, es3, rfl, rfl, rfl, rfl, rfl, rfl, TW2, HSRT2, HLn2, HFew2, H2⟩ := hcut
              clear c0 c1 c2 H1 TW HSRT HLn HFew
              have c2 := H2.out.cellK (List.mem_cons_self ..) (j := 2) rfl
              obtain ⟨k0, k1⟩ := H2.out.cb
              have hn3 : n3 = P2.length := by rw [← H2.out.eq, List.length_map, slQE_len H2.out.r8.sl]
              have HN3 := Lib.hid hn3
              have hoc := r8Of_any (most := most) H2.out.r8 (by have := HLn2.out; omega) d.S
              unfold Of8P at hoc
              rw [H2.out.eq] at hoc
              obtain ⟨q0, hq0⟩ : ∃ q0, q0 = getQ P2 most d.S := ⟨_, rfl⟩
              have HQ0 := Lib.hid hq0
              rw [← hq0] at hoc
              have HFq := Lib.hid (show q0.l.length ≤ i + 1 ∧ 0 ≤ q0.most ∧ q0.most ≤ 65536 by rw [hq0]; exact HFew2.out d.S)
              obtain ⟨mq, l⟩ := q0
              simp only at hoc HFq
              clear hq0 hn3
              go_wp2_with fail
              refine hoc.mono ?_; rintro y w3 ⟨BL, cl, rfl, sl, gl, b3⟩
              have H8 := Lib.hid ((H2.out.below b3).alloc (.cells #[.string (bstr d.S), .int .i64 mq, .slice BL l.length cl] 53))
              have SL0 := sl.below (below_alloc1 w3 (.cells #[.string (bstr d.S), .int .i64 mq, .slice BL l.length cl] 53))
              clear hoc sl gl b3 k0 k1 c2
              go_upto_region 33 with fail
              obtain ⟨w4, hw4⟩ : ∃ w4, w4 = w3.alloc (.cells #[.string (bstr d.S), .int .i64 mq, .slice BL l.length cl] 53) := ⟨_, rfl⟩
              rw [← hw4] at H8 SL0 ⊢
              obtain ⟨bq, hbq⟩ : ∃ bq, bq = w3.heap.size := ⟨_, rfl⟩
              rw [← hbq] at H8 ⊢
              clear hw4 hbq
              have H9 := H8
              have SL := Lib.hid SL0
              have QO2 := Lib.hid (H9.out.cellK (List.mem_cons_of_mem _ (List.mem_cons_self ..)) (j := 2) rfl)
              have QB1 := Lib.hid (H9.out.cellK (List.mem_cons_self ..) (j := 1) rfl)
              have QB2 := Lib.hid (H9.out.cellK (List.mem_cons_self ..) (j := 2) rfl)
              have KB := Lib.hid H9.out.cb
              have HGQ := Lib.hid (show (getQ qs2 most d.S).l = l by rw [TW2.out.get most d.S, ← HQ0.out])
              have HGM := Lib.hid (show (getQ qs2 most d.S).most = mq by rw [TW2.out.get most d.S, ← HQ0.out])
              have HLL := Lib.hid (show l.length ≤ 201 by have := HFq.out; omega)
              obtain ⟨hl, hhl⟩ : ∃ hl, hl = heldN P2 := ⟨_, rfl⟩
              obtain ⟨nh, hnh⟩ : ∃ nh, nh = hl.length := ⟨_, rfl⟩
              have HNH := Lib.hid (show nh ≤ 201 by rw [hnh, hhl]; have h1 := held_len P2; have := HLn2.out; omega)
              have HNM : Hid (∀ w, Below w4.heap.size w4 w → Calls Try.prog 16 #[.pointer (some ⟨p, 0, none⟩)] w fun e w' => ∃ A c, e = .returned (.slice A nh c) ∧ Sl w' 1 A nh c (strsL hl) ∧ Below w.heap.size w w') := Lib.hid fun w hb => by
                have h1 := Names_any (H9.out.below hb).ri.is (by have := HLn2.out; omega)
                have h2 := held_same TW2.out H9.out.ri.nodup8 HSRT2.out
                have h3 : (heldN qs2).length = nh := by rw [hnh, hhl, ← h2, List.length_mergeSort]
                rw [h2, h3, ← hhl] at h1
                exact h1
              have HNR : Hid (∀ w, Below w4.heap.size w4 w → Calls Try.prog 30 #[.agg #[.int .i64 most, .slice A3 n3 c3]] w fun e w' => ∃ A c, e = .returned (.slice A nh c) ∧ Sl w' 1 A nh c (strsL hl) ∧ Below w.heap.size w w') := Lib.hid fun w hb => by
                have h1 := r8Names_any (most := most) (H9.out.below hb).r8.sl (by have := HLn2.out; have := HN3.out; omega)
                rw [H9.out.eq, ← hhl, ← hnh] at h1
                exact h1
              have hwq : IntKind.i64.wrap (mq - (l.length : Int)) = mq - (l.length : Int) := by have h1 := HFq.out; rw [IntKind.wrap_i64]; omega
              clear hhl hnh H8 SL0
              --@region 4 33 rp33.spec
              refine wp_region_run (by kernel_rfl) (by kernel_rfl) ?_
              apply RunL.pure
              · intro vs w hb hd; clear hd; simp only [List.take, putL, Act.put, List.setIfInBounds_toArray, List.set_cons_zero, List.set_cons_succ]; unfold StepOK; go_simp; exact ⟨Below.refl _ _, isV_mk _ _⟩
              apply RunL.pure
              · intro vs w hb hd; clear hd; simp only [List.take, putL, Act.put, List.setIfInBounds_toArray, List.set_cons_zero, List.set_cons_succ]; unfold StepOK; go_simp; exact ⟨Below.refl _ _, isV_mk _ _⟩
              apply RunL.pure
              · intro vs w hb hd; have d0 : isV _ (vs 0) w := hd 0 (by decide) (by kernel_rfl); unfold isV at d0; have d1 : isV _ (vs 1) w := hd 1 (by decide) (by kernel_rfl); unfold isV at d1; clear hd; simp only [List.take, putL, Act.put, List.setIfInBounds_toArray, List.set_cons_zero, List.set_cons_succ]; unfold StepOK; go_simp; exact ⟨Below.refl _ _, isV_mk _ _⟩
              apply RunL.pure
              · intro vs w hb hd; have d2 : isV _ (vs 2) w := hd 2 (by decide) (by kernel_rfl); unfold isV at d2; clear hd; simp only [List.take, putL, Act.put, List.setIfInBounds_toArray, List.set_cons_zero, List.set_cons_succ]; unfold StepOK; go_simp; exact ⟨Below.refl _ _, isV_mk _ _⟩
              apply RunL.pure
              · intro vs w hb hd; have d3 : isV _ (vs 3) w := hd 3 (by decide) (by kernel_rfl); unfold isV at d3; clear hd; simp only [List.take, putL, Act.put, List.setIfInBounds_toArray, List.set_cons_zero, List.set_cons_succ]; unfold StepOK; go_simp; exact ⟨Below.refl _ _, isV_mk _ _⟩
              apply RunL.pure
              · intro vs w hb hd; have d3 : isV _ (vs 3) w := hd 3 (by decide) (by kernel_rfl); unfold isV at d3; clear hd; simp only [List.take, putL, Act.put, List.setIfInBounds_toArray, List.set_cons_zero, List.set_cons_succ]; unfold StepOK; go_simp; exact ⟨Below.refl _ _, isV_mk _ _⟩
              apply RunL.pure
              · intro vs w hb hd; have d3 : isV _ (vs 3) w := hd 3 (by decide) (by kernel_rfl); unfold isV at d3; have d4 : isV _ (vs 4) w := hd 4 (by decide) (by kernel_rfl); unfold isV at d4; have d5 : isV _ (vs 5) w := hd 5 (by decide) (by kernel_rfl); unfold isV at d5; clear hd; simp only [List.take, putL, Act.put, List.setIfInBounds_toArray, List.set_cons_zero, List.set_cons_succ]; unfold StepOK; go_simp; exact ⟨Below.refl _ _, isV_mk _ _⟩
              apply RunL.pure
              · intro vs w hb hd; have d3 : isV _ (vs 3) w := hd 3 (by decide) (by kernel_rfl); unfold isV at d3; have d6 : isV _ (vs 6) w := hd 6 (by decide) (by kernel_rfl); unfold isV at d6; clear hd; simp only [List.take, putL, Act.put, List.setIfInBounds_toArray, List.set_cons_zero, List.set_cons_succ]; unfold StepOK; go_simp; exact ⟨Below.refl _ _, isV_mk _ _⟩
              apply RunL.pure
              · intro vs w hb hd; have d3 : isV _ (vs 3) w := hd 3 (by decide) (by kernel_rfl); unfold isV at d3; have d7 : isV _ (vs 7) w := hd 7 (by decide) (by kernel_rfl); unfold isV at d7; clear hd; simp only [List.take, putL, Act.put, List.setIfInBounds_toArray, List.set_cons_zero, List.set_cons_succ]; unfold StepOK; go_simp; exact ⟨Below.refl _ _, isV_mk _ _⟩
              apply RunL.pure
              · intro vs w hb hd; have d8 : isV _ (vs 8) w := hd 8 (by decide) (by kernel_rfl); unfold isV at d8; clear hd; simp only [List.take, putL, Act.put, List.setIfInBounds_toArray, List.set_cons_zero, List.set_cons_succ]; unfold StepOK; go_simp; exact ⟨Below.refl _ _, isV_mk _ _⟩
              apply RunL.pure
              · intro vs w hb hd; have d8 : isV _ (vs 8) w := hd 8 (by decide) (by kernel_rfl); unfold isV at d8; clear hd; simp only [List.take, putL, Act.put, List.setIfInBounds_toArray, List.set_cons_zero, List.set_cons_succ]; unfold StepOK; go_simp; exact ⟨Below.refl _ _, isV_mk _ _⟩
              apply RunL.pure
              · intro vs w hb hd; have d8 : isV _ (vs 8) w := hd 8 (by decide) (by kernel_rfl); unfold isV at d8; have d9 : isV _ (vs 9) w := hd 9 (by decide) (by kernel_rfl); unfold isV at d9; have d10 : isV _ (vs 10) w := hd 10 (by decide) (by kernel_rfl); unfold isV at d10; clear hd; simp only [List.take, putL, Act.put, List.setIfInBounds_toArray, List.set_cons_zero, List.set_cons_succ]; unfold StepOK; go_simp; exact ⟨Below.refl _ _, isV_mk _ _⟩
              apply RunL.pure
              · intro vs w hb hd; have d8 : isV _ (vs 8) w := hd 8 (by decide) (by kernel_rfl); unfold isV at d8; have d11 : isV _ (vs 11) w := hd 11 (by decide) (by kernel_rfl); unfold isV at d11; clear hd; simp only [List.take, putL, Act.put, List.setIfInBounds_toArray, List.set_cons_zero, List.set_cons_succ]; unfold StepOK; go_simp; exact ⟨Below.refl _ _, isV_mk _ _⟩
              apply RunL.pure
              · intro vs w hb hd; have d8 : isV _ (vs 8) w := hd 8 (by decide) (by kernel_rfl); unfold isV at d8; have d12 : isV _ (vs 12) w := hd 12 (by decide) (by kernel_rfl); unfold isV at d12; clear hd; simp only [List.take, putL, Act.put, List.setIfInBounds_toArray, List.set_cons_zero, List.set_cons_succ]; unfold StepOK; go_simp; exact ⟨Below.refl _ _, isV_mk _ _⟩
              apply RunL.pure
              · intro vs w hb hd; have d13 : isV _ (vs 13) w := hd 13 (by decide) (by kernel_rfl); unfold isV at d13; clear hd; simp only [List.take, putL, Act.put, List.setIfInBounds_toArray, List.set_cons_zero, List.set_cons_succ]; unfold StepOK; go_simp; exact ⟨Below.refl _ _, isV_mk _ _⟩
              apply RunL.pure
              · intro vs w hb hd; have d13 : isV _ (vs 13) w := hd 13 (by decide) (by kernel_rfl); unfold isV at d13; clear hd; simp only [List.take, putL, Act.put, List.setIfInBounds_toArray, List.set_cons_zero, List.set_cons_succ]; unfold StepOK; go_simp; exact ⟨Below.refl _ _, isV_mk _ _⟩
              apply RunL.pure
              · intro vs w hb hd; have d13 : isV _ (vs 13) w := hd 13 (by decide) (by kernel_rfl); unfold isV at d13; have d15 : isV _ (vs 15) w := hd 15 (by decide) (by kernel_rfl); unfold isV at d15; clear hd; have hx := cell8 hb QO2.out; simp only [List.take, putL, Act.put, List.setIfInBounds_toArray, List.set_cons_zero, List.set_cons_succ]; unfold StepOK; go_simp; exact ⟨Below.refl _ _, isV_mk _ _⟩
              apply RunL.pure
              · intro vs w hb hd; have d13 : isV _ (vs 13) w := hd 13 (by decide) (by kernel_rfl); unfold isV at d13; clear hd; simp only [List.take, putL, Act.put, List.setIfInBounds_toArray, List.set_cons_zero, List.set_cons_succ]; unfold StepOK; go_simp; exact ⟨Below.refl _ _, isV_mk _ _⟩
              apply RunL.pure
              · intro vs w hb hd; have d13 : isV _ (vs 13) w := hd 13 (by decide) (by kernel_rfl); unfold isV at d13; have d17 : isV _ (vs 17) w := hd 17 (by decide) (by kernel_rfl); unfold isV at d17; clear hd; have hx := cell8 hb QB2.out; simp only [List.take, putL, Act.put, List.setIfInBounds_toArray, List.set_cons_zero, List.set_cons_succ]; unfold StepOK; go_simp; exact ⟨Below.refl _ _, isV_mk _ _⟩
              refine RunL.such (isV (.bool true)) (isV_stable _) ?_ ?_
              · intro vs w hb hd; have d13 : isV _ (vs 13) w := hd 13 (by decide) (by kernel_rfl); unfold isV at d13; have d14 : isV _ (vs 14) w := hd 14 (by decide) (by kernel_rfl); unfold isV at d14; have d16 : isV _ (vs 16) w := hd 16 (by decide) (by kernel_rfl); unfold isV at d16; have d18 : isV _ (vs 18) w := hd 18 (by decide) (by kernel_rfl); unfold isV at d18; clear hd; simp only [List.take, putL, Act.put, List.setIfInBounds_toArray, List.set_cons_zero, List.set_cons_succ]; unfold StepOK; go_simp; exact ⟨Below.refl _ _, such_of_bool (has_any (H9.out.below hb).ri.is d.S HNL.out BL l.length cl l (SL.out.below hb) HGQ.out (by have := HLL.out; omega))⟩
              apply RunL.pure
              · intro vs w hb hd; have d13 : isV _ (vs 13) w := hd 13 (by decide) (by kernel_rfl); unfold isV at d13; have d19 := hd 19 (by decide) (by kernel_rfl); simp only [TR, Nat.reduceAdd, Nat.reduceSub, List.getD_cons_zero, List.getD_cons_succ] at d19; clear hd; unfold isV at d19; simp only [List.take, putL, Act.put, List.setIfInBounds_toArray, List.set_cons_zero, List.set_cons_succ]; unfold StepOK; go_simp; exact ⟨Below.refl _ _, isV_mk _ _⟩
              apply RunL.pure
              · intro vs w hb hd; have d13 : isV _ (vs 13) w := hd 13 (by decide) (by kernel_rfl); unfold isV at d13; have d20 : isV _ (vs 20) w := hd 20 (by decide) (by kernel_rfl); unfold isV at d20; clear hd; simp only [List.take, putL, Act.put, List.setIfInBounds_toArray, List.set_cons_zero, List.set_cons_succ]; unfold StepOK; go_simp; exact ⟨Below.refl _ _, isV_mk _ _⟩
              apply RunL.pure
              · intro vs w hb hd; have d19 := hd 19 (by decide) (by kernel_rfl); simp only [TR, Nat.reduceAdd, Nat.reduceSub, List.getD_cons_zero, List.getD_cons_succ] at d19; have d21 : isV _ (vs 21) w := hd 21 (by decide) (by kernel_rfl); unfold isV at d21; clear hd; simp only [List.take, putL, Act.put, List.setIfInBounds_toArray, List.set_cons_zero, List.set_cons_succ]; unfold StepOK; go_simp; exact ⟨Below.refl _ _, isV_mk _ _⟩
              apply RunL.pure
              · intro vs w hb hd; have d22 : isV _ (vs 22) w := hd 22 (by decide) (by kernel_rfl); unfold isV at d22; clear hd; simp only [List.take, putL, Act.put, List.setIfInBounds_toArray, List.set_cons_zero, List.set_cons_succ]; unfold StepOK; go_simp; exact ⟨Below.refl _ _, isV_mk _ _⟩
              apply RunL.pure
              · intro vs w hb hd; have d22 : isV _ (vs 22) w := hd 22 (by decide) (by kernel_rfl); unfold isV at d22; clear hd; simp only [List.take, putL, Act.put, List.setIfInBounds_toArray, List.set_cons_zero, List.set_cons_succ]; unfold StepOK; go_simp; exact ⟨Below.refl _ _, isV_mk _ _⟩
              apply RunL.pure
              · intro vs w hb hd; have d22 : isV _ (vs 22) w := hd 22 (by decide) (by kernel_rfl); unfold isV at d22; have d24 : isV _ (vs 24) w := hd 24 (by decide) (by kernel_rfl); unfold isV at d24; clear hd; have hx := cell8 hb QO2.out; simp only [List.take, putL, Act.put, List.setIfInBounds_toArray, List.set_cons_zero, List.set_cons_succ]; unfold StepOK; go_simp; exact ⟨Below.refl _ _, isV_mk _ _⟩
              refine RunL.such (isV (.int .i64 (max (mq - l.length) 0))) (isV_stable _) ?_ ?_
              · intro vs w hb hd; have d22 : isV _ (vs 22) w := hd 22 (by decide) (by kernel_rfl); unfold isV at d22; have d23 : isV _ (vs 23) w := hd 23 (by decide) (by kernel_rfl); unfold isV at d23; have d25 : isV _ (vs 25) w := hd 25 (by decide) (by kernel_rfl); unfold isV at d25; clear hd; simp only [List.take, putL, Act.put, List.setIfInBounds_toArray, List.set_cons_zero, List.set_cons_succ]; unfold StepOK; go_simp; exact ⟨Below.refl _ _, such_of_bool ((Room_any (H9.out.below hb).ri.is d.S HNL.out).mono (fun e w' ⟨h1, h2⟩ => ⟨by rw [h1, HGM.out, HGQ.out], h2⟩))⟩
              apply RunL.pure
              · intro vs w hb hd; have d22 : isV _ (vs 22) w := hd 22 (by decide) (by kernel_rfl); unfold isV at d22; clear hd; simp only [List.take, putL, Act.put, List.setIfInBounds_toArray, List.set_cons_zero, List.set_cons_succ]; unfold StepOK; go_simp; exact ⟨Below.refl _ _, isV_mk _ _⟩
              apply RunL.pure
              · intro vs w hb hd; have d22 : isV _ (vs 22) w := hd 22 (by decide) (by kernel_rfl); unfold isV at d22; have d27 : isV _ (vs 27) w := hd 27 (by decide) (by kernel_rfl); unfold isV at d27; clear hd; have hx := cell8 hb QB1.out; simp only [List.take, putL, Act.put, List.setIfInBounds_toArray, List.set_cons_zero, List.set_cons_succ]; unfold StepOK; go_simp; exact ⟨Below.refl _ _, isV_mk _ _⟩
              apply RunL.pure
              · intro vs w hb hd; have d22 : isV _ (vs 22) w := hd 22 (by decide) (by kernel_rfl); unfold isV at d22; clear hd; simp only [List.take, putL, Act.put, List.setIfInBounds_toArray, List.set_cons_zero, List.set_cons_succ]; unfold StepOK; go_simp; exact ⟨Below.refl _ _, isV_mk _ _⟩
              apply RunL.pure
              · intro vs w hb hd; have d22 : isV _ (vs 22) w := hd 22 (by decide) (by kernel_rfl); unfold isV at d22; have d29 : isV _ (vs 29) w := hd 29 (by decide) (by kernel_rfl); unfold isV at d29; clear hd; have hx := cell8 hb QB2.out; simp only [List.take, putL, Act.put, List.setIfInBounds_toArray, List.set_cons_zero, List.set_cons_succ]; unfold StepOK; go_simp; exact ⟨Below.refl _ _, isV_mk _ _⟩
              apply RunL.pure
              · intro vs w hb hd; have d22 : isV _ (vs 22) w := hd 22 (by decide) (by kernel_rfl); unfold isV at d22; have d30 : isV _ (vs 30) w := hd 30 (by decide) (by kernel_rfl); unfold isV at d30; clear hd; simp only [List.take, putL, Act.put, List.setIfInBounds_toArray, List.set_cons_zero, List.set_cons_succ]; unfold StepOK; go_simp; exact ⟨Below.refl _ _, isV_mk _ _⟩
              apply RunL.pure
              · intro vs w hb hd; have d22 : isV _ (vs 22) w := hd 22 (by decide) (by kernel_rfl); unfold isV at d22; have d28 : isV _ (vs 28) w := hd 28 (by decide) (by kernel_rfl); unfold isV at d28; have d31 : isV _ (vs 31) w := hd 31 (by decide) (by kernel_rfl); unfold isV at d31; clear hd; simp only [List.take, putL, Act.put, List.setIfInBounds_toArray, List.set_cons_zero, List.set_cons_succ]; unfold StepOK; go_simp; exact ⟨Below.refl _ _, isV_mk _ _⟩
              apply RunL.pure
              · intro vs w hb hd; have d22 : isV _ (vs 22) w := hd 22 (by decide) (by kernel_rfl); unfold isV at d22; have d32 : isV _ (vs 32) w := hd 32 (by decide) (by kernel_rfl); unfold isV at d32; clear hd; simp only [List.take, putL, Act.put, List.setIfInBounds_toArray, List.set_cons_zero, List.set_cons_succ]; unfold StepOK; go_simp; exact ⟨Below.refl _ _, isV_mk _ _⟩
              apply RunL.pure
              · intro vs w hb hd; have d22 : isV _ (vs 22) w := hd 22 (by decide) (by kernel_rfl); unfold isV at d22; have d26 := hd 26 (by decide) (by kernel_rfl); simp only [TR, Nat.reduceAdd, Nat.reduceSub, List.getD_cons_zero, List.getD_cons_succ] at d26; have d33 : isV _ (vs 33) w := hd 33 (by decide) (by kernel_rfl); unfold isV at d33; clear hd; unfold isV at d26; simp only [List.take, putL, Act.put, List.setIfInBounds_toArray, List.set_cons_zero, List.set_cons_succ]; unfold StepOK; go_simp; exact ⟨Below.refl _ _, isV_mk _ _⟩
              apply RunL.pure
              · intro vs w hb hd; have d22 : isV _ (vs 22) w := hd 22 (by decide) (by kernel_rfl); unfold isV at d22; have d34 : isV _ (vs 34) w := hd 34 (by decide) (by kernel_rfl); unfold isV at d34; clear hd; simp only [List.take, putL, Act.put, List.setIfInBounds_toArray, List.set_cons_zero, List.set_cons_succ]; unfold StepOK; go_simp; exact ⟨Below.refl _ _, isV_mk _ _⟩
              apply RunL.pure
              · intro vs w hb hd; have d26 := hd 26 (by decide) (by kernel_rfl); simp only [TR, Nat.reduceAdd, Nat.reduceSub, List.getD_cons_zero, List.getD_cons_succ] at d26; have d35 : isV _ (vs 35) w := hd 35 (by decide) (by kernel_rfl); unfold isV at d35; clear hd; simp only [List.take, putL, Act.put, List.setIfInBounds_toArray, List.set_cons_zero, List.set_cons_succ]; unfold StepOK; go_simp; exact ⟨Below.refl _ _, isV_mk _ _⟩
              apply RunL.pure
              · intro vs w hb hd; have d36 : isV _ (vs 36) w := hd 36 (by decide) (by kernel_rfl); unfold isV at d36; clear hd; simp only [List.take, putL, Act.put, List.setIfInBounds_toArray, List.set_cons_zero, List.set_cons_succ]; unfold StepOK; go_simp; exact ⟨Below.refl _ _, isV_mk _ _⟩
              refine RunL.such (fun v w => ∃ A c, v = .slice A nh c ∧ Sl w 1 A nh c (strsL hl)) (fun _ _ _ hb ⟨A, c, h1, h2⟩ => ⟨A, c, h1, h2.below hb⟩) ?_ ?_
              · intro vs w hb hd; have d36 : isV _ (vs 36) w := hd 36 (by decide) (by kernel_rfl); unfold isV at d36; have d37 : isV _ (vs 37) w := hd 37 (by decide) (by kernel_rfl); unfold isV at d37; clear hd; simp only [List.take, putL, Act.put, List.setIfInBounds_toArray, List.set_cons_zero, List.set_cons_succ]; unfold StepOK; go_simp; exact ⟨Below.refl _ _, (HNM.out w hb).mono fun e w' ⟨A, c, h1, h2, h3⟩ => ⟨_, h1, h3, A, c, rfl, h2⟩⟩
              apply RunL.pure
              · intro vs w hb hd; have d36 : isV _ (vs 36) w := hd 36 (by decide) (by kernel_rfl); unfold isV at d36; clear hd; have hx0 := cell8 hb KB.out.1; have hx1 := cell8 hb KB.out.2; simp only [List.take, putL, Act.put, List.setIfInBounds_toArray, List.set_cons_zero, List.set_cons_succ]; unfold StepOK; go_simp; exact ⟨Below.refl _ _, isV_mk _ _⟩
              refine RunL.such (fun v w => ∃ A c, v = .slice A nh c ∧ Sl w 1 A nh c (strsL hl)) (fun _ _ _ hb ⟨A, c, h1, h2⟩ => ⟨A, c, h1, h2.below hb⟩) ?_ ?_
              · intro vs w hb hd; have d36 : isV _ (vs 36) w := hd 36 (by decide) (by kernel_rfl); unfold isV at d36; have d38 := hd 38 (by decide) (by kernel_rfl); simp only [TR, Nat.reduceAdd, Nat.reduceSub, List.getD_cons_zero, List.getD_cons_succ] at d38; have d39 : isV _ (vs 39) w := hd 39 (by decide) (by kernel_rfl); unfold isV at d39; clear hd; simp only [List.take, putL, Act.put, List.setIfInBounds_toArray, List.set_cons_zero, List.set_cons_succ]; unfold StepOK; go_simp; exact ⟨Below.refl _ _, (HNR.out w hb).mono fun e w' ⟨A, c, h1, h2, h3⟩ => ⟨_, h1, h3, A, c, rfl, h2⟩⟩
              refine RunL.such (isV (.bool true)) (isV_stable _) ?_ ?_
              · intro vs w hb hd; have d36 : isV _ (vs 36) w := hd 36 (by decide) (by kernel_rfl); unfold isV at d36; have d38 := hd 38 (by decide) (by kernel_rfl); simp only [TR, Nat.reduceAdd, Nat.reduceSub, List.getD_cons_zero, List.getD_cons_succ] at d38; have d40 := hd 40 (by decide) (by kernel_rfl); simp only [TR, Nat.reduceAdd, Nat.reduceSub, List.getD_cons_zero, List.getD_cons_succ] at d40; clear hd; obtain ⟨A1, c1, h1, s1⟩ := d38; obtain ⟨A2, c2, h2, s2⟩ := d40; simp only [List.take, putL, Act.put, List.setIfInBounds_toArray, List.set_cons_zero, List.set_cons_succ]; unfold StepOK; go_simp; exact ⟨Below.refl _ _, such_of_bool (sameTexts_any A1 A2 nh c1 c2 hl w s1 s2 (by have := HNH.out; omega))⟩
              apply RunL.pure
              · intro vs w hb hd; have d36 : isV _ (vs 36) w := hd 36 (by decide) (by kernel_rfl); unfold isV at d36; have d41 := hd 41 (by decide) (by kernel_rfl); simp only [TR, Nat.reduceAdd, Nat.reduceSub, List.getD_cons_zero, List.getD_cons_succ] at d41; clear hd; unfold isV at d41; simp only [List.take, putL, Act.put, List.setIfInBounds_toArray, List.set_cons_zero, List.set_cons_succ]; unfold StepOK; go_simp; exact ⟨Below.refl _ _, isV_mk _ _⟩
              apply RunL.pure
              · intro vs w hb hd; have d36 : isV _ (vs 36) w := hd 36 (by decide) (by kernel_rfl); unfold isV at d36; have d42 : isV _ (vs 42) w := hd 42 (by decide) (by kernel_rfl); unfold isV at d42; clear hd; simp only [List.take, putL, Act.put, List.setIfInBounds_toArray, List.set_cons_zero, List.set_cons_succ]; unfold StepOK; go_simp; exact ⟨Below.refl _ _, isV_mk _ _⟩
              intro vs w1 hb hd
              have e0 : isV _ (vs 0) w1 := hd 0 (by decide)
              have e1 : isV _ (vs 1) w1 := hd 1 (by decide)
              have e2 : isV _ (vs 2) w1 := hd 2 (by decide)
              have e3 : isV _ (vs 3) w1 := hd 3 (by decide)
              have e4 : isV _ (vs 4) w1 := hd 4 (by decide)
              have e5 : isV _ (vs 5) w1 := hd 5 (by decide)
              have e6 : isV _ (vs 6) w1 := hd 6 (by decide)
              have e7 : isV _ (vs 7) w1 := hd 7 (by decide)
              have e8 : isV _ (vs 8) w1 := hd 8 (by decide)
              have e9 : isV _ (vs 9) w1 := hd 9 (by decide)
              have e10 : isV _ (vs 10) w1 := hd 10 (by decide)
              have e11 : isV _ (vs 11) w1 := hd 11 (by decide)
              have e12 : isV _ (vs 12) w1 := hd 12 (by decide)
              have e13 : isV _ (vs 13) w1 := hd 13 (by decide)
              have e14 : isV _ (vs 14) w1 := hd 14 (by decide)
              have e15 : isV _ (vs 15) w1 := hd 15 (by decide)
              have e16 : isV _ (vs 16) w1 := hd 16 (by decide)
              have e17 : isV _ (vs 17) w1 := hd 17 (by decide)
              have e18 : isV _ (vs 18) w1 := hd 18 (by decide)
              have e19 := hd 19 (by decide); simp only [TR, Nat.reduceAdd, Nat.reduceSub, List.getD_cons_zero, List.getD_cons_succ] at e19
              have e20 : isV _ (vs 20) w1 := hd 20 (by decide)
              have e21 : isV _ (vs 21) w1 := hd 21 (by decide)
              have e22 : isV _ (vs 22) w1 := hd 22 (by decide)
              have e23 : isV _ (vs 23) w1 := hd 23 (by decide)
              have e24 : isV _ (vs 24) w1 := hd 24 (by decide)
              have e25 : isV _ (vs 25) w1 := hd 25 (by decide)
              have e26 := hd 26 (by decide); simp only [TR, Nat.reduceAdd, Nat.reduceSub, List.getD_cons_zero, List.getD_cons_succ] at e26
              have e27 : isV _ (vs 27) w1 := hd 27 (by decide)
              have e28 : isV _ (vs 28) w1 := hd 28 (by decide)
              have e29 : isV _ (vs 29) w1 := hd 29 (by decide)
              have e30 : isV _ (vs 30) w1 := hd 30 (by decide)
              have e31 : isV _ (vs 31) w1 := hd 31 (by decide)
              have e32 : isV _ (vs 32) w1 := hd 32 (by decide)
              have e33 : isV _ (vs 33) w1 := hd 33 (by decide)
              have e34 : isV _ (vs 34) w1 := hd 34 (by decide)
              have e35 : isV _ (vs 35) w1 := hd 35 (by decide)
              have e36 : isV _ (vs 36) w1 := hd 36 (by decide)
              have e37 : isV _ (vs 37) w1 := hd 37 (by decide)
              have e38 := hd 38 (by decide); simp only [TR, Nat.reduceAdd, Nat.reduceSub, List.getD_cons_zero, List.getD_cons_succ] at e38
              have e39 : isV _ (vs 39) w1 := hd 39 (by decide)
              have e40 := hd 40 (by decide); simp only [TR, Nat.reduceAdd, Nat.reduceSub, List.getD_cons_zero, List.getD_cons_succ] at e40
              have e41 := hd 41 (by decide); simp only [TR, Nat.reduceAdd, Nat.reduceSub, List.getD_cons_zero, List.getD_cons_succ] at e41
              have e42 : isV _ (vs 42) w1 := hd 42 (by decide)
              have e43 : isV _ (vs 43) w1 := hd 43 (by decide)
              clear hd
              unfold isV at e0 e1 e2 e3 e4 e5 e6 e7 e8 e9 e10 e11 e12 e13 e14 e15 e16 e17 e18 e20 e21 e22 e23 e24 e25 e27 e28 e29 e30 e31 e32 e33 e34 e35 e36 e37 e39 e42 e43
              simp only [putL, Act.put, List.setIfInBounds_toArray, List.set_cons_zero, List.set_cons_succ, e0, e1, e2, e3, e4, e5, e6, e7, e8, e9, e10, e11, e12, e13, e14, e15, e16, e17, e18, e20, e21, e22, e23, e24, e25, e27, e28, e29, e30, e31, e32, e33, e34, e35, e36, e37, e39, e42, e43]
              clear e0 e1 e2 e3 e4 e5 e6 e7 e8 e9 e10 e11 e12 e13 e14 e15 e16 e17 e18 e20 e21 e22 e23 e24 e25 e27 e28 e29 e30 e31 e32 e33 e34 e35 e36 e37 e39 e42 e43
              --@end
              have HE := Lib.hid (H9.out.below hb)
              clear hb H9 KB QO2 QB1 QB2 SL HNM HNR hwq
              go_wp2_with fail
              go_roundw
              case rel => exact ⟨i + 1, qs2, P2, lab2, A3, n3, c3, es3, by omega, by omega, by go_num, TW2, HSRT2, HLn2, HFew2, Lib.hid (HE.out.subK (fun κ hk => by cases hk))⟩
              case measure => simp [intOf]; omega
          case first =>
            obtain h | h | h | h | h | h | h | h | h | h | h : kk = 1 ∨ kk = 2 ∨ kk = 3 ∨ kk = 4 ∨ kk = 5 ∨ kk = 6 ∨ kk = 7 ∨ kk = 8 ∨ kk = 9 ∨ kk = 10 ∨ (kk ≠ 1 ∧ kk ≠ 2 ∧ kk ≠ 3 ∧ kk ≠ 4 ∧ kk ≠ 5 ∧ kk ≠ 6 ∧ kk ≠ 7 ∧ kk ≠ 8 ∧ kk ≠ 9 ∧ kk ≠ 10) := by omega
            · as_aux_lemma =>
                subst h
                have htw := twin_put (M := most) (nm := d.S) TW.out Hqs.out.1 Hqs.out.2.1 d.N
                obtain ⟨PR, hPR⟩ : ∃ PR, PR = put8 P most d.S d.N := ⟨_, rfl⟩
                obtain ⟨qs2, hqs2⟩ : ∃ qs2, qs2 = (putR qs most d.S d.N).2 := ⟨_, rfl⟩
                have hpc := Put_lab H1.out.ri d.S HNL.out d.N Hqs.out.2.2
                rw [← hPR, ← hqs2] at htw
                have HTw2 := Lib.hid htw.2
                have HV := Lib.hid htw.1
                rw [← hqs2] at hpc
                have HF2 := Lib.hid (show Few8 PR.1 most (i + 1) by rw [hPR]; exact few_put HFew.out HMo.out d.S d.N)
                have HS2 := Lib.hid (show SrtP PR.1 by rw [hPR]; exact put8_srt HSRT.out d.N)
                have HL2 := Lib.hid (show qs2.length ≤ i + 1 ∧ PR.1.length ≤ i + 1 by
                  rw [hPR, hqs2]
                  have h1 := HLn.out
                  have h2 := put8_len (P := P) (M := most) (nm := d.S) d.N
                  have h3 := put_len (qs := qs) (M := most) (nm := d.S) d.N
                  omega)
                have HPR := Lib.hid hPR
                clear htw hPR hqs2
                rw [HV.out] at hpc
                go_wp2_with fail
                refine hpc.mono ?_; rintro y w3 ⟨rfl, ⟨lab2, k5, k6⟩, k7⟩
                have H3 := Lib.hid (H1.out.ring k5 k6 k7)
                clear hpc k5 k6 k7 c1 c2
                have c1 := H3.out.cellK (List.mem_cons_self ..) (j := 1) rfl
                have c2 := H3.out.cellK (List.mem_cons_self ..) (j := 2) rfl
                have hdc := r8Put_any (most := most) H3.out.gok H3.out.r8 (by rw [H3.out.eq]; exact HSRT.out) (by have h1 := slQE_len H3.out.r8.sl; have h2 := congrArg List.length H3.out.eq; rw [List.length_map] at h2; have h3 := Hqs.out; omega) d.S d.N (by rw [H3.out.eq]; have := HFew.out d.S; omega)
                unfold Op8 at hdc
                rw [H3.out.eq, ← HPR.out] at hdc
                obtain ⟨k0, k1⟩ := H3.out.cb
                go_wp2_with fail
                refine hdc.mono ?_; rintro y w4 ⟨A3, n3, c3, es3, rfl, p1, p2, p3⟩
                have H4 := Lib.hid (H3.out.below p3)
                have H5 := Lib.hid (H4.out.put p1 p2)
                have f0 := World.ownsRow.frozenAt H4.out.box 0
                have f1 := World.ownsRow.frozenAt H4.out.box 1
                obtain ⟨k0, k1⟩ := H4.out.cb
                clear hdc p1 p2 p3 c1 c2
                go_wp2_with fail
                go_meet
                exact ⟨PR.2, 0, true, qs2, PR.1, lab2, A3, n3, c3, es3, rfl, rfl, rfl, rfl, rfl, rfl, HTw2, HS2, HL2, HF2, H5⟩
            · as_aux_lemma =>
                subst h
                have htw := twin_put (M := most) (nm := d.S) TW.out Hqs.out.1 Hqs.out.2.1 d.N
                obtain ⟨PR, hPR⟩ : ∃ PR, PR = put8 P most d.S d.N := ⟨_, rfl⟩
                obtain ⟨qs2, hqs2⟩ : ∃ qs2, qs2 = (putR qs most d.S d.N).2 := ⟨_, rfl⟩
                have hpc := Put_lab H1.out.ri d.S HNL.out d.N Hqs.out.2.2
                rw [← hPR, ← hqs2] at htw
                have HTw2 := Lib.hid htw.2
                have HV := Lib.hid htw.1
                rw [← hqs2] at hpc
                have HF2 := Lib.hid (show Few8 PR.1 most (i + 1) by rw [hPR]; exact few_put HFew.out HMo.out d.S d.N)
                have HS2 := Lib.hid (show SrtP PR.1 by rw [hPR]; exact put8_srt HSRT.out d.N)
                have HL2 := Lib.hid (show qs2.length ≤ i + 1 ∧ PR.1.length ≤ i + 1 by
                  rw [hPR, hqs2]
                  have h1 := HLn.out
                  have h2 := put8_len (P := P) (M := most) (nm := d.S) d.N
                  have h3 := put_len (qs := qs) (M := most) (nm := d.S) d.N
                  omega)
                have HPR := Lib.hid hPR
                clear htw hPR hqs2
                rw [HV.out] at hpc
                go_wp2_with fail
                refine hpc.mono ?_; rintro y w3 ⟨rfl, ⟨lab2, k5, k6⟩, k7⟩
                have H3 := Lib.hid (H1.out.ring k5 k6 k7)
                clear hpc k5 k6 k7 c1 c2
                have c1 := H3.out.cellK (List.mem_cons_self ..) (j := 1) rfl
                have c2 := H3.out.cellK (List.mem_cons_self ..) (j := 2) rfl
                have hdc := r8Put_any (most := most) H3.out.gok H3.out.r8 (by rw [H3.out.eq]; exact HSRT.out) (by have h1 := slQE_len H3.out.r8.sl; have h2 := congrArg List.length H3.out.eq; rw [List.length_map] at h2; have h3 := Hqs.out; omega) d.S d.N (by rw [H3.out.eq]; have := HFew.out d.S; omega)
                unfold Op8 at hdc
                rw [H3.out.eq, ← HPR.out] at hdc
                obtain ⟨k0, k1⟩ := H3.out.cb
                go_wp2_with fail
                refine hdc.mono ?_; rintro y w4 ⟨A3, n3, c3, es3, rfl, p1, p2, p3⟩
                have H4 := Lib.hid (H3.out.below p3)
                have H5 := Lib.hid (H4.out.put p1 p2)
                have f0 := World.ownsRow.frozenAt H4.out.box 0
                have f1 := World.ownsRow.frozenAt H4.out.box 1
                obtain ⟨k0, k1⟩ := H4.out.cb
                clear hdc p1 p2 p3 c1 c2
                go_wp2_with fail
                go_meet
                exact ⟨PR.2, 0, true, qs2, PR.1, lab2, A3, n3, c3, es3, rfl, rfl, rfl, rfl, rfl, rfl, HTw2, HS2, HL2, HF2, H5⟩
            · as_aux_lemma =>
                subst h
                have htw := twin_put (M := most) (nm := d.S) TW.out Hqs.out.1 Hqs.out.2.1 d.N
                obtain ⟨PR, hPR⟩ : ∃ PR, PR = put8 P most d.S d.N := ⟨_, rfl⟩
                obtain ⟨qs2, hqs2⟩ : ∃ qs2, qs2 = (putR qs most d.S d.N).2 := ⟨_, rfl⟩
                have hpc := Put_lab H1.out.ri d.S HNL.out d.N Hqs.out.2.2
                rw [← hPR, ← hqs2] at htw
                have HTw2 := Lib.hid htw.2
                have HV := Lib.hid htw.1
                rw [← hqs2] at hpc
                have HF2 := Lib.hid (show Few8 PR.1 most (i + 1) by rw [hPR]; exact few_put HFew.out HMo.out d.S d.N)
                have HS2 := Lib.hid (show SrtP PR.1 by rw [hPR]; exact put8_srt HSRT.out d.N)
                have HL2 := Lib.hid (show qs2.length ≤ i + 1 ∧ PR.1.length ≤ i + 1 by
                  rw [hPR, hqs2]
                  have h1 := HLn.out
                  have h2 := put8_len (P := P) (M := most) (nm := d.S) d.N
                  have h3 := put_len (qs := qs) (M := most) (nm := d.S) d.N
                  omega)
                have HPR := Lib.hid hPR
                clear htw hPR hqs2
                rw [HV.out] at hpc
                go_wp2_with fail
                refine hpc.mono ?_; rintro y w3 ⟨rfl, ⟨lab2, k5, k6⟩, k7⟩
                have H3 := Lib.hid (H1.out.ring k5 k6 k7)
                clear hpc k5 k6 k7 c1 c2
                have c1 := H3.out.cellK (List.mem_cons_self ..) (j := 1) rfl
                have c2 := H3.out.cellK (List.mem_cons_self ..) (j := 2) rfl
                have hdc := r8Put_any (most := most) H3.out.gok H3.out.r8 (by rw [H3.out.eq]; exact HSRT.out) (by have h1 := slQE_len H3.out.r8.sl; have h2 := congrArg List.length H3.out.eq; rw [List.length_map] at h2; have h3 := Hqs.out; omega) d.S d.N (by rw [H3.out.eq]; have := HFew.out d.S; omega)
                unfold Op8 at hdc
                rw [H3.out.eq, ← HPR.out] at hdc
                obtain ⟨k0, k1⟩ := H3.out.cb
                go_wp2_with fail
                refine hdc.mono ?_; rintro y w4 ⟨A3, n3, c3, es3, rfl, p1, p2, p3⟩
                have H4 := Lib.hid (H3.out.below p3)
                have H5 := Lib.hid (H4.out.put p1 p2)
                have f0 := World.ownsRow.frozenAt H4.out.box 0
                have f1 := World.ownsRow.frozenAt H4.out.box 1
                obtain ⟨k0, k1⟩ := H4.out.cb
                clear hdc p1 p2 p3 c1 c2
                go_wp2_with fail
                go_meet
                exact ⟨PR.2, 0, true, qs2, PR.1, lab2, A3, n3, c3, es3, rfl, rfl, rfl, rfl, rfl, rfl, HTw2, HS2, HL2, HF2, H5⟩
            · as_aux_lemma =>
                subst h
                have htw := twin_put (M := most) (nm := d.S) TW.out Hqs.out.1 Hqs.out.2.1 d.N
                obtain ⟨PR, hPR⟩ : ∃ PR, PR = put8 P most d.S d.N := ⟨_, rfl⟩
                obtain ⟨qs2, hqs2⟩ : ∃ qs2, qs2 = (putR qs most d.S d.N).2 := ⟨_, rfl⟩
                have hpc := Put_lab H1.out.ri d.S HNL.out d.N Hqs.out.2.2
                rw [← hPR, ← hqs2] at htw
                have HTw2 := Lib.hid htw.2
                have HV := Lib.hid htw.1
                rw [← hqs2] at hpc
                have HF2 := Lib.hid (show Few8 PR.1 most (i + 1) by rw [hPR]; exact few_put HFew.out HMo.out d.S d.N)
                have HS2 := Lib.hid (show SrtP PR.1 by rw [hPR]; exact put8_srt HSRT.out d.N)
                have HL2 := Lib.hid (show qs2.length ≤ i + 1 ∧ PR.1.length ≤ i + 1 by
                  rw [hPR, hqs2]
                  have h1 := HLn.out
                  have h2 := put8_len (P := P) (M := most) (nm := d.S) d.N
                  have h3 := put_len (qs := qs) (M := most) (nm := d.S) d.N
                  omega)
                have HPR := Lib.hid hPR
                clear htw hPR hqs2
                rw [HV.out] at hpc
                go_wp2_with fail
                refine hpc.mono ?_; rintro y w3 ⟨rfl, ⟨lab2, k5, k6⟩, k7⟩
                have H3 := Lib.hid (H1.out.ring k5 k6 k7)
                clear hpc k5 k6 k7 c1 c2
                have c1 := H3.out.cellK (List.mem_cons_self ..) (j := 1) rfl
                have c2 := H3.out.cellK (List.mem_cons_self ..) (j := 2) rfl
                have hdc := r8Put_any (most := most) H3.out.gok H3.out.r8 (by rw [H3.out.eq]; exact HSRT.out) (by have h1 := slQE_len H3.out.r8.sl; have h2 := congrArg List.length H3.out.eq; rw [List.length_map] at h2; have h3 := Hqs.out; omega) d.S d.N (by rw [H3.out.eq]; have := HFew.out d.S; omega)
                unfold Op8 at hdc
                rw [H3.out.eq, ← HPR.out] at hdc
                obtain ⟨k0, k1⟩ := H3.out.cb
                go_wp2_with fail
                refine hdc.mono ?_; rintro y w4 ⟨A3, n3, c3, es3, rfl, p1, p2, p3⟩
                have H4 := Lib.hid (H3.out.below p3)
                have H5 := Lib.hid (H4.out.put p1 p2)
                have f0 := World.ownsRow.frozenAt H4.out.box 0
                have f1 := World.ownsRow.frozenAt H4.out.box 1
                obtain ⟨k0, k1⟩ := H4.out.cb
                clear hdc p1 p2 p3 c1 c2
                go_wp2_with fail
                go_meet
                exact ⟨PR.2, 0, true, qs2, PR.1, lab2, A3, n3, c3, es3, rfl, rfl, rfl, rfl, rfl, rfl, HTw2, HS2, HL2, HF2, H5⟩
            · as_aux_lemma =>
                subst h
                have htw := twin_put (M := most) (nm := d.S) TW.out Hqs.out.1 Hqs.out.2.1 d.N
                obtain ⟨PR, hPR⟩ : ∃ PR, PR = put8 P most d.S d.N := ⟨_, rfl⟩
                obtain ⟨qs2, hqs2⟩ : ∃ qs2, qs2 = (putR qs most d.S d.N).2 := ⟨_, rfl⟩
                have hpc := Put_lab H1.out.ri d.S HNL.out d.N Hqs.out.2.2
                rw [← hPR, ← hqs2] at htw
                have HTw2 := Lib.hid htw.2
                have HV := Lib.hid htw.1
                rw [← hqs2] at hpc
                have HF2 := Lib.hid (show Few8 PR.1 most (i + 1) by rw [hPR]; exact few_put HFew.out HMo.out d.S d.N)
                have HS2 := Lib.hid (show SrtP PR.1 by rw [hPR]; exact put8_srt HSRT.out d.N)
                have HL2 := Lib.hid (show qs2.length ≤ i + 1 ∧ PR.1.length ≤ i + 1 by
                  rw [hPR, hqs2]
                  have h1 := HLn.out
                  have h2 := put8_len (P := P) (M := most) (nm := d.S) d.N
                  have h3 := put_len (qs := qs) (M := most) (nm := d.S) d.N
                  omega)
                have HPR := Lib.hid hPR
                clear htw hPR hqs2
                rw [HV.out] at hpc
                go_wp2_with fail
                refine hpc.mono ?_; rintro y w3 ⟨rfl, ⟨lab2, k5, k6⟩, k7⟩
                have H3 := Lib.hid (H1.out.ring k5 k6 k7)
                clear hpc k5 k6 k7 c1 c2
                have c1 := H3.out.cellK (List.mem_cons_self ..) (j := 1) rfl
                have c2 := H3.out.cellK (List.mem_cons_self ..) (j := 2) rfl
                have hdc := r8Put_any (most := most) H3.out.gok H3.out.r8 (by rw [H3.out.eq]; exact HSRT.out) (by have h1 := slQE_len H3.out.r8.sl; have h2 := congrArg List.length H3.out.eq; rw [List.length_map] at h2; have h3 := Hqs.out; omega) d.S d.N (by rw [H3.out.eq]; have := HFew.out d.S; omega)
                unfold Op8 at hdc
                rw [H3.out.eq, ← HPR.out] at hdc
                obtain ⟨k0, k1⟩ := H3.out.cb
                go_wp2_with fail
                refine hdc.mono ?_; rintro y w4 ⟨A3, n3, c3, es3, rfl, p1, p2, p3⟩
                have H4 := Lib.hid (H3.out.below p3)
                have H5 := Lib.hid (H4.out.put p1 p2)
                have f0 := World.ownsRow.frozenAt H4.out.box 0
                have f1 := World.ownsRow.frozenAt H4.out.box 1
                obtain ⟨k0, k1⟩ := H4.out.cb
                clear hdc p1 p2 p3 c1 c2
                go_wp2_with fail
                go_meet
                exact ⟨PR.2, 0, true, qs2, PR.1, lab2, A3, n3, c3, es3, rfl, rfl, rfl, rfl, rfl, rfl, HTw2, HS2, HL2, HF2, H5⟩
            · as_aux_lemma =>
                subst h
                have htw := twin_take (M := most) (nm := d.S) TW.out
                obtain ⟨PR, hPR⟩ : ∃ PR, PR = take8 P most d.S := ⟨_, rfl⟩
                obtain ⟨qs2, hqs2⟩ : ∃ qs2, qs2 = takeR qs most d.S := ⟨_, rfl⟩
                have hpc := Take_lab H1.out.ri d.S HNL.out Hqs.out.2.2
                rw [← hPR, ← hqs2] at htw
                have HTw2 := Lib.hid htw.2
                have HV := Lib.hid htw.1
                rw [← hqs2] at hpc
                have HF2 := Lib.hid (show Few8 PR.1 most (i + 1) by rw [hPR]; exact few_take HFew.out HMo.out d.S)
                have HS2 := Lib.hid (show SrtP PR.1 by rw [hPR]; exact take8_srt HSRT.out)
                have HL2 := Lib.hid (show qs2.length ≤ i + 1 ∧ PR.1.length ≤ i + 1 by
                  rw [hPR, hqs2]
                  have h1 := HLn.out
                  have h2 := take8_len (P := P) (M := most) (nm := d.S)
                  have h3 := take_len (qs := qs) (M := most) (nm := d.S)
                  omega)
                have HPR := Lib.hid hPR
                clear htw hPR hqs2
                rw [HV.out] at hpc
                simp only at hpc
                go_wp2_with fail
                refine hpc.mono ?_; rintro y w3 ⟨rfl, ⟨lab2, k5, k6⟩, k7⟩
                have H3 := Lib.hid (H1.out.ring k5 k6 k7)
                clear hpc k5 k6 k7 c1 c2
                have c1 := H3.out.cellK (List.mem_cons_self ..) (j := 1) rfl
                have c2 := H3.out.cellK (List.mem_cons_self ..) (j := 2) rfl
                have hdc := r8Take_any (most := most) H3.out.gok H3.out.r8 (by rw [H3.out.eq]; exact HSRT.out) (by have h1 := slQE_len H3.out.r8.sl; have h2 := congrArg List.length H3.out.eq; rw [List.length_map] at h2; have h3 := Hqs.out; omega) d.S
                unfold Take8P at hdc
                rw [H3.out.eq, ← HPR.out] at hdc
                obtain ⟨k0, k1⟩ := H3.out.cb
                go_wp2_with fail
                refine hdc.mono ?_; rintro y w4 ⟨A3, n3, c3, es3, rfl, p1, p2, p3⟩
                have H4 := Lib.hid (H3.out.below p3)
                have H5 := Lib.hid (H4.out.put p1 p2)
                have f0 := World.ownsRow.frozenAt H4.out.box 0
                have f1 := World.ownsRow.frozenAt H4.out.box 1
                obtain ⟨k0, k1⟩ := H4.out.cb
                clear hdc p1 p2 p3 c1 c2
                go_wp2_with fail
                go_meet
                exact ⟨0, PR.2.1, PR.2.2, qs2, PR.1, lab2, A3, n3, c3, es3, rfl, rfl, rfl, rfl, rfl, rfl, HTw2, HS2, HL2, HF2, H5⟩
            · as_aux_lemma =>
                subst h
                have htw := twin_take (M := most) (nm := d.S) TW.out
                obtain ⟨PR, hPR⟩ : ∃ PR, PR = take8 P most d.S := ⟨_, rfl⟩
                obtain ⟨qs2, hqs2⟩ : ∃ qs2, qs2 = takeR qs most d.S := ⟨_, rfl⟩
                have hpc := Take_lab H1.out.ri d.S HNL.out Hqs.out.2.2
                rw [← hPR, ← hqs2] at htw
                have HTw2 := Lib.hid htw.2
                have HV := Lib.hid htw.1
                rw [← hqs2] at hpc
                have HF2 := Lib.hid (show Few8 PR.1 most (i + 1) by rw [hPR]; exact few_take HFew.out HMo.out d.S)
                have HS2 := Lib.hid (show SrtP PR.1 by rw [hPR]; exact take8_srt HSRT.out)
                have HL2 := Lib.hid (show qs2.length ≤ i + 1 ∧ PR.1.length ≤ i + 1 by
                  rw [hPR, hqs2]
                  have h1 := HLn.out
                  have h2 := take8_len (P := P) (M := most) (nm := d.S)
                  have h3 := take_len (qs := qs) (M := most) (nm := d.S)
                  omega)
                have HPR := Lib.hid hPR
                clear htw hPR hqs2
                rw [HV.out] at hpc
                simp only at hpc
                go_wp2_with fail
                refine hpc.mono ?_; rintro y w3 ⟨rfl, ⟨lab2, k5, k6⟩, k7⟩
                have H3 := Lib.hid (H1.out.ring k5 k6 k7)
                clear hpc k5 k6 k7 c1 c2
                have c1 := H3.out.cellK (List.mem_cons_self ..) (j := 1) rfl
                have c2 := H3.out.cellK (List.mem_cons_self ..) (j := 2) rfl
                have hdc := r8Take_any (most := most) H3.out.gok H3.out.r8 (by rw [H3.out.eq]; exact HSRT.out) (by have h1 := slQE_len H3.out.r8.sl; have h2 := congrArg List.length H3.out.eq; rw [List.length_map] at h2; have h3 := Hqs.out; omega) d.S
                unfold Take8P at hdc
                rw [H3.out.eq, ← HPR.out] at hdc
                obtain ⟨k0, k1⟩ := H3.out.cb
                go_wp2_with fail
                refine hdc.mono ?_; rintro y w4 ⟨A3, n3, c3, es3, rfl, p1, p2, p3⟩
                have H4 := Lib.hid (H3.out.below p3)
                have H5 := Lib.hid (H4.out.put p1 p2)
                have f0 := World.ownsRow.frozenAt H4.out.box 0
                have f1 := World.ownsRow.frozenAt H4.out.box 1
                obtain ⟨k0, k1⟩ := H4.out.cb
                clear hdc p1 p2 p3 c1 c2
                go_wp2_with fail
                go_meet
                exact ⟨0, PR.2.1, PR.2.2, qs2, PR.1, lab2, A3, n3, c3, es3, rfl, rfl, rfl, rfl, rfl, rfl, HTw2, HS2, HL2, HF2, H5⟩
            · as_aux_lemma =>
                subst h
                have htw := twin_drop (M := most) (nm := d.S) TW.out d.N
                obtain ⟨PR, hPR⟩ : ∃ PR, PR = drop8 P most d.S d.N := ⟨_, rfl⟩
                obtain ⟨qs2, hqs2⟩ : ∃ qs2, qs2 = (dropR qs most d.S d.N).2 := ⟨_, rfl⟩
                have hpc := Drop_lab H1.out.ri d.S HNL.out d.N Hqs.out.2.2
                rw [← hPR, ← hqs2] at htw
                have HTw2 := Lib.hid htw.2
                have HV := Lib.hid htw.1
                rw [← hqs2] at hpc
                have HF2 := Lib.hid (show Few8 PR.1 most (i + 1) by rw [hPR]; exact few_drop HFew.out HMo.out d.S d.N)
                have HS2 := Lib.hid (show SrtP PR.1 by rw [hPR]; exact drop8_srt HSRT.out d.N)
                have HL2 := Lib.hid (show qs2.length ≤ i + 1 ∧ PR.1.length ≤ i + 1 by
                  rw [hPR, hqs2]
                  have h1 := HLn.out
                  have h2 := drop8_len (P := P) (M := most) (nm := d.S) d.N
                  have h3 := drop_len (qs := qs) (M := most) (nm := d.S) d.N
                  omega)
                have HPR := Lib.hid hPR
                clear htw hPR hqs2
                rw [HV.out] at hpc
                go_wp2_with fail
                refine hpc.mono ?_; rintro y w3 ⟨rfl, ⟨lab2, k5, k6⟩, k7⟩
                have H3 := Lib.hid (H1.out.ring k5 k6 k7)
                clear hpc k5 k6 k7 c1 c2
                have c1 := H3.out.cellK (List.mem_cons_self ..) (j := 1) rfl
                have c2 := H3.out.cellK (List.mem_cons_self ..) (j := 2) rfl
                have hdc := r8Drop_any (most := most) H3.out.gok H3.out.r8 (by rw [H3.out.eq]; exact HSRT.out) (by have h1 := slQE_len H3.out.r8.sl; have h2 := congrArg List.length H3.out.eq; rw [List.length_map] at h2; have h3 := Hqs.out; omega) d.S d.N (by rw [H3.out.eq]; have := HFew.out d.S; omega)
                unfold Op8 at hdc
                rw [H3.out.eq, ← HPR.out] at hdc
                obtain ⟨k0, k1⟩ := H3.out.cb
                go_wp2_with fail
                refine hdc.mono ?_; rintro y w4 ⟨A3, n3, c3, es3, rfl, p1, p2, p3⟩
                have H4 := Lib.hid (H3.out.below p3)
                have H5 := Lib.hid (H4.out.put p1 p2)
                have f0 := World.ownsRow.frozenAt H4.out.box 0
                have f1 := World.ownsRow.frozenAt H4.out.box 1
                obtain ⟨k0, k1⟩ := H4.out.cb
                clear hdc p1 p2 p3 c1 c2
                go_wp2_with fail
                go_meet
                exact ⟨0, 0, PR.2, qs2, PR.1, lab2, A3, n3, c3, es3, rfl, rfl, rfl, rfl, rfl, rfl, HTw2, HS2, HL2, HF2, H5⟩
            · as_aux_lemma =>
                subst h
                have htw := twin_drop (M := most) (nm := d.S) TW.out d.N
                obtain ⟨PR, hPR⟩ : ∃ PR, PR = drop8 P most d.S d.N := ⟨_, rfl⟩
                obtain ⟨qs2, hqs2⟩ : ∃ qs2, qs2 = (dropR qs most d.S d.N).2 := ⟨_, rfl⟩
                have hpc := Drop_lab H1.out.ri d.S HNL.out d.N Hqs.out.2.2
                rw [← hPR, ← hqs2] at htw
                have HTw2 := Lib.hid htw.2
                have HV := Lib.hid htw.1
                rw [← hqs2] at hpc
                have HF2 := Lib.hid (show Few8 PR.1 most (i + 1) by rw [hPR]; exact few_drop HFew.out HMo.out d.S d.N)
                have HS2 := Lib.hid (show SrtP PR.1 by rw [hPR]; exact drop8_srt HSRT.out d.N)
                have HL2 := Lib.hid (show qs2.length ≤ i + 1 ∧ PR.1.length ≤ i + 1 by
                  rw [hPR, hqs2]
                  have h1 := HLn.out
                  have h2 := drop8_len (P := P) (M := most) (nm := d.S) d.N
                  have h3 := drop_len (qs := qs) (M := most) (nm := d.S) d.N
                  omega)
                have HPR := Lib.hid hPR
                clear htw hPR hqs2
                rw [HV.out] at hpc
                go_wp2_with fail
                refine hpc.mono ?_; rintro y w3 ⟨rfl, ⟨lab2, k5, k6⟩, k7⟩
                have H3 := Lib.hid (H1.out.ring k5 k6 k7)
                clear hpc k5 k6 k7 c1 c2
                have c1 := H3.out.cellK (List.mem_cons_self ..) (j := 1) rfl
                have c2 := H3.out.cellK (List.mem_cons_self ..) (j := 2) rfl
                have hdc := r8Drop_any (most := most) H3.out.gok H3.out.r8 (by rw [H3.out.eq]; exact HSRT.out) (by have h1 := slQE_len H3.out.r8.sl; have h2 := congrArg List.length H3.out.eq; rw [List.length_map] at h2; have h3 := Hqs.out; omega) d.S d.N (by rw [H3.out.eq]; have := HFew.out d.S; omega)
                unfold Op8 at hdc
                rw [H3.out.eq, ← HPR.out] at hdc
                obtain ⟨k0, k1⟩ := H3.out.cb
                go_wp2_with fail
                refine hdc.mono ?_; rintro y w4 ⟨A3, n3, c3, es3, rfl, p1, p2, p3⟩
                have H4 := Lib.hid (H3.out.below p3)
                have H5 := Lib.hid (H4.out.put p1 p2)
                have f0 := World.ownsRow.frozenAt H4.out.box 0
                have f1 := World.ownsRow.frozenAt H4.out.box 1
                obtain ⟨k0, k1⟩ := H4.out.cb
                clear hdc p1 p2 p3 c1 c2
                go_wp2_with fail
                go_meet
                exact ⟨0, 0, PR.2, qs2, PR.1, lab2, A3, n3, c3, es3, rfl, rfl, rfl, rfl, rfl, rfl, HTw2, HS2, HL2, HF2, H5⟩
            · as_aux_lemma =>
                subst h
                have htw := twin_cap (M := most) (nm := d.S) TW.out Hqs.out.1 Hqs.out.2.1 d.N
                obtain ⟨PR, hPR⟩ : ∃ PR, PR = cap8 P most d.S d.N := ⟨_, rfl⟩
                obtain ⟨qs2, hqs2⟩ : ∃ qs2, qs2 = (capR qs most d.S d.N).2 := ⟨_, rfl⟩
                have hpc := Cap_lab H1.out.ri d.S HNL.out d.N Hqs.out.2.2
                rw [← hPR, ← hqs2] at htw
                have HTw2 := Lib.hid htw.2
                have HV := Lib.hid htw.1
                rw [← hqs2] at hpc
                have HF2 := Lib.hid (show Few8 PR.1 most (i + 1) by rw [hPR]; exact few_cap HFew.out HMo.out d.S d.N)
                have HS2 := Lib.hid (show SrtP PR.1 by rw [hPR]; exact cap8_srt HSRT.out d.N)
                have HL2 := Lib.hid (show qs2.length ≤ i + 1 ∧ PR.1.length ≤ i + 1 by
                  rw [hPR, hqs2]
                  have h1 := HLn.out
                  have h2 := cap8_len (P := P) (M := most) (nm := d.S) d.N
                  have h3 := cap_len (qs := qs) (M := most) (nm := d.S) d.N
                  omega)
                have HPR := Lib.hid hPR
                clear htw hPR hqs2
                rw [HV.out] at hpc
                go_wp2_with fail
                refine hpc.mono ?_; rintro y w3 ⟨rfl, ⟨lab2, k5, k6⟩, k7⟩
                have H3 := Lib.hid (H1.out.ring k5 k6 k7)
                clear hpc k5 k6 k7 c1 c2
                have c1 := H3.out.cellK (List.mem_cons_self ..) (j := 1) rfl
                have c2 := H3.out.cellK (List.mem_cons_self ..) (j := 2) rfl
                have hdc := r8Cap_any (most := most) H3.out.gok H3.out.r8 (by rw [H3.out.eq]; exact HSRT.out) (by have h1 := slQE_len H3.out.r8.sl; have h2 := congrArg List.length H3.out.eq; rw [List.length_map] at h2; have h3 := Hqs.out; omega) d.S d.N
                unfold Op8 at hdc
                rw [H3.out.eq, ← HPR.out] at hdc
                obtain ⟨k0, k1⟩ := H3.out.cb
                go_wp2_with fail
                refine hdc.mono ?_; rintro y w4 ⟨A3, n3, c3, es3, rfl, p1, p2, p3⟩
                have H4 := Lib.hid (H3.out.below p3)
                have H5 := Lib.hid (H4.out.put p1 p2)
                have f0 := World.ownsRow.frozenAt H4.out.box 0
                have f1 := World.ownsRow.frozenAt H4.out.box 1
                obtain ⟨k0, k1⟩ := H4.out.cb
                clear hdc p1 p2 p3 c1 c2
                go_wp2_with fail
                go_meet
                exact ⟨PR.2, 0, true, qs2, PR.1, lab2, A3, n3, c3, es3, rfl, rfl, rfl, rfl, rfl, rfl, HTw2, HS2, HL2, HF2, H5⟩
            · as_aux_lemma =>
                obtain ⟨h1, h2, h3, h4, h5, h6, h7, h8, h9, h10⟩ := h
                have q1 : (kk == 1) = false := by simpa using h1
                have q2 : (kk == 2) = false := by simpa using h2
                have q3 : (kk == 3) = false := by simpa using h3
                have q4 : (kk == 4) = false := by simpa using h4
                have q5 : (kk == 5) = false := by simpa using h5
                have q6 : (kk == 6) = false := by simpa using h6
                have q7 : (kk == 7) = false := by simpa using h7
                have q8 : (kk == 8) = false := by simpa using h8
                have q9 : (kk == 9) = false := by simpa using h9
                have q10 : (kk == 10) = false := by simpa using h10
                go_wp2_with fail
                go_meet
                exact ⟨0, 0, true, qs, P, lab, A, n, c, es, rfl, rfl, rfl, rfl, rfl, rfl, TW, HSRT, Lib.hid (by have := HLn.out; omega), Lib.hid (HFew.out.mono (by omega)), H1⟩
      · have Hf := H
        by_cases h1 : (i : Int) < (n0 : Int)
        · have h2 : ¬ (i : Int) < 200 := fun h => hgo ⟨h1, h⟩
          clear hgo
          go_wp2_with fail
          refine (awake8_any _).mono ?_; rintro x wl ⟨rfl, hbl⟩
          go_wp2_with fail
          go_ret
          exact ⟨rfl, Hf.out.bel.trans (hbl.mono Hf.out.bel.size)⟩
        · clear hgo
          go_wp2_with fail
          refine (awake8_any _).mono ?_; rintro x wl ⟨rfl, hbl⟩
          go_wp2_with fail
          go_ret
          exact ⟨rfl, Hf.out.bel.trans (hbl.mono Hf.out.bel.size)⟩
  · simp only [if_neg hm] at hc1 hc2
    clear hm
    go_enter Try.func4, Try.ntmps4
    go_wp2_with fail
    refine hc1.mono ?_; rintro x w1 ⟨rfl, k3⟩
    clear hc1
    go_wp2_with fail
    refine (hc2 w1).mono ?_; rintro x w2 ⟨rfl, k4⟩
    clear hc2
    have hbx := below_alloc1 w2 (.cells #[.int .i64 0, .slice none 0 0] 39)
    have HBL := Lib.hid ((k3.trans (k4.mono k3.size)).trans (hbx.mono (Nat.le_trans k3.size k4.size)))
    clear hbx k3 k4
    go_upto_region 3 with fail
    obtain ⟨w3, hw3⟩ : ∃ w3, w3 = w2.alloc (.cells #[.int .i64 0, .slice none 0 0] 39) := ⟨_, rfl⟩
    rw [← hw3] at HBL ⊢
    clear hw3
    go_wp2_with fail
    refine (awake8_any _).mono ?_; rintro x wl ⟨rfl, hbl⟩
    go_wp2_with fail
    go_ret
    exact ⟨rfl, HBL.out.trans (hbl.mono HBL.out.size)⟩
end Go.Proofs.Ytcidifmikcnkcaa
