import Derived.Test.YtphjmbhlokkdiaaWkD
import Derived.Test.YtphjmbhlokkdiaaRelA
/- The workers: the document's sign of life. -/
namespace Go.Proofs.Ytphjmbhlokkdiaa
open Go.RowKit Go.Proofs.YtphjmbhlokkdiaaW.PrintWords Go.Proofs.YtphjmbhlokkdiaaW.PrintLast Go.Proofs.YtphjmbhlokkdiaaW.PrintMore
set_option linter.unusedSimpArgs false
set_option linter.unusedVariables false

theorem c_of_slW {w : World} {A : Option Addr} {m d : Nat} {xs : List Wk} (h : Sl w 2 A m d (flatW xs)) (hm : m ≤ 1000000) : Kd.C PWorkersTell.k115 w A xs.length xs := by
  refine ⟨rfl, by rw [slW_len h]; omega, fun hp => ?_⟩
  obtain ⟨x0, hx0⟩ := get_at xs 0 hp
  obtain ⟨ad, rfl⟩ := slW_addr h hx0
  refine ⟨ad, rfl, fun j p hj => ⟨wkC p, rfl, PWorkersTell.k115_mk w p, fun i u hi => ?_⟩⟩
  obtain ⟨a, h1, h2⟩ := h.cells (j * 2 + i) u (flatMap_get wkC 2 (fun _ => rfl) hj hi)
  cases h1
  exact h2
theorem reps_flat {α : Type} {R : α → List Value → Prop} {s : Nat} {f : α → List Value} (hf : ∀ x cs, R x cs → cs = f x) (hl : ∀ x, (f x).length = s) {ps : List α} {cs : List Value} (h : Reps R s ps cs) : cs = ps.flatMap f := by
  apply List.ext_getElem?
  intro j
  have hlen : (ps.flatMap f).length = ps.length * s := flatMap_len f s hl ps
  rcases Nat.lt_or_ge j (ps.length * s) with hj | hj
  · have hs : 0 < s := by
      rcases Nat.eq_zero_or_pos s with h0 | h0
      · subst h0; omega
      · exact h0
    have hk : j / s < ps.length := Nat.div_lt_of_lt_mul (by rw [Nat.mul_comm]; exact hj)
    obtain ⟨p, hp⟩ := get_at ps (j / s) hk
    have h2 := hf p _ (h.2 (j / s) p hp)
    have hm : j % s < s := Nat.mod_lt _ hs
    have hjs : j / s * s + j % s = j := Nat.div_add_mod' j s
    have h3 : ((cs.drop (j / s * s)).take s)[j % s]? = cs[j]? := by
      rw [List.getElem?_take, if_pos hm, List.getElem?_drop, hjs]
    obtain ⟨u, hu⟩ : ∃ u, (f p)[j % s]? = some u := ⟨(f p)[j % s]'(by rw [hl]; exact hm), List.getElem?_eq_getElem _⟩
    have h4 := flatMap_get f s hl hp hu
    rw [hjs] at h4
    rw [h4, ← h3, h2, hu]
  · rw [List.getElem?_eq_none (by rw [h.1]; exact hj), List.getElem?_eq_none (by rw [hlen]; exact hj)]
theorem sl_of_RW {w : World} {base : Nat} {ok : Nat → Prop} {v : Value} {xs : List Wk} (h : Kd.R PWorkersTell.k115 115 w base ok v xs) : ∃ A c, v = .slice A xs.length c ∧ Own base 115 2 w A xs.length c (flatW xs) := by
  obtain ⟨_, inner, ho, hr⟩ := h
  have he : inner = flatW xs := reps_flat (f := wkC) (fun x cs hx => PWorkersTell.k115_openM hx) (fun _ => rfl) hr
  subst he
  exact ownsRow_sliceI ho

theorem slW_take {w : World} {A : Option Addr} {m d : Nat} {xs : List Wk} (h : Sl w 2 A m d (flatW xs)) {k : Nat} (hk : k ≤ xs.length) : Sl w 2 A k d (flatW (xs.take k)) := by
  have hl := slW_len h
  refine ⟨fun j u hj => ?_, by rw [flatW_len, List.length_take]; omega, by have := h.le; omega, fun hn => by have := h.none hn; omega⟩
  have e1 : (flatW xs).take (k * 2) = flatW (xs.take k) := flatMap_take wkC 2 (fun _ => rfl) xs k
  rw [← e1, List.getElem?_take] at hj
  split at hj
  · exact h.cells j u hj
  · cases hj
theorem slW_drop {w : World} {g m d : Nat} {xs : List Wk} (h : Sl w 2 (some ⟨g, 0, none⟩) m d (flatW xs)) {k : Nat} (hk : k ≤ xs.length) : Sl w 2 (some ⟨g, k * 2, none⟩) (xs.length - k) (d - k) (flatW (xs.drop k)) := by
  have hl := slW_len h
  refine ⟨fun j u hj => ⟨_, rfl, ?_⟩, by rw [flatW_len, List.length_drop], by have := h.le; omega, fun hn => by cases hn⟩
  have e1 : (flatW xs).drop (k * 2) = flatW (xs.drop k) := flatMap_drop wkC 2 (fun _ => rfl) xs k
  rw [← e1, List.getElem?_drop] at hj
  obtain ⟨a, h1, h2⟩ := h.cells _ u hj
  cases h1
  rw [Addr.add_lit]
  have e3 : (⟨g, 0, none⟩ : Addr).add (k * 2 + j) = ⟨g, k * 2 + j, none⟩ := by unfold Addr.add; split <;> simp_all
  rw [e3] at h2
  exact h2
set_option maxRecDepth 100000 in
set_option maxHeartbeats 4000000 in
theorem rseenW_any (A : Option Addr) (m d : Nat) (xs : List Wk) (id now : Int) (w : World) (hs : Sl w 2 A m d (flatW xs)) (hm : m ≤ 100000) :
    Calls Try.prog 34 #[.slice A m d, .int .i64 id, .int .i64 now] w fun e w' => ∃ A' n' c', e = .returned (.tuple #[.slice A' n' c', .int .i64 (seenW xs id now).2]) ∧ Sl w' 2 A' n' c' (flatW (seenW xs id now).1) ∧ Below w.heap.size w w' := by
  have hl := slW_len hs
  have Hl := Lib.hid hl
  have hd := hs.le
  subst hl
  have hb0 := below_alloc1 w (.cells #[] 115)
  have hown : Own w.heap.size 115 2 (w.alloc (.cells #[] 115)) (some ⟨w.heap.size, 0, none⟩) 0 0 [] := World.ownsRow_lit w #[] 0 (Nat.le_refl _) (by unfold maxLen; omega) rfl
  obtain ⟨A1, c1, w1, hrun1, o1, hR1⟩ := run_app3 (P := Try.prog) (w.alloc (.cells #[] 115)) 0 w.heap.size 62 62 115 (.agg #[.int .i64 0, .int .i64 0]) 2 16 Try.underlying62 infoIW rfl (by decide) (some ⟨w.heap.size, 0, none⟩) 0 0 [] hown (.inr rfl) A xs.length d (flatW xs) (hs.below hb0) (wk_one xs) (by unfold maxLen; omega) (by omega) (by simp)
  have hb1 : Below w.heap.size w w1 := by
    refine hb0.trans ⟨hR1.os, hR1.tape, hR1.output, hR1.size, fun b hb => ?_⟩
    exact hR1.low b (by simp; omega) hb
  simp only [Nat.zero_add, List.nil_append] at hrun1 o1
  have hs1 := hs.below hb1
  clear hown hR1 hs
  go_enter Try.func34, Try.ntmps34
  go_wp2_with (at_builtin; refine Lib.wpList_append_run _ rfl (.tmp 10) (.tmp 11) 62 62 rfl _ _ rfl rfl _ _ hrun1 ?_)
  refine (PWorkersTell.millwheelref19_Right.calls (xs.length + 1) A d xs (rightW xs) _ (c_of_slW hs1 (by omega)) hd (rright_f xs _ (by omega))).mono ?_; rintro x w2 ⟨rfl, hn2⟩
  have hb2 := hb1.trans (hn2.below.mono hb1.size)
  have o2 := Own.below o1 hn2.below
  clear hs1 o1 hb1 hn2
  obtain ⟨z, hz⟩ : ∃ z, rightW xs = z := ⟨_, rfl⟩
  rw [hz]
  have Hz := Lib.hid hz
  clear hz
  cases z with
  | false =>
    have HL := Lib.hid (show seenW xs id now = (xs, 112) by simp [seenW, Hz.out])
    go_wp2_with fail
    go_ret2
    rw [HL.out]
    exact ⟨A1, xs.length, c1, rfl, o2.sl, hb2⟩
  | true =>
    have Hso := Lib.hid (rightW_sorted Hz.out)
    by_cases hbad : id < 1 ∨ now < 0 ∨ 1099511627776 < now
    · have HL := Lib.hid (show seenW xs id now = (xs, 2) by unfold seenW; rw [if_neg (by simp [Hz.out]), if_pos (by rcases hbad with h | h | h; exact .inl h; exact .inr (.inl h); exact .inr (.inr (.inl h)))])
      by_cases h1 : id < 1
      · go_wp2_with fail
        go_ret2
        rw [HL.out]
        exact ⟨A1, xs.length, c1, rfl, o2.sl, hb2⟩
      by_cases h2 : now < 0
      · go_wp2_with fail
        go_ret2
        rw [HL.out]
        exact ⟨A1, xs.length, c1, rfl, o2.sl, hb2⟩
      have h3 : 1099511627776 < now := by omega
      go_wp2_with fail
      go_ret2
      rw [HL.out]
      exact ⟨A1, xs.length, c1, rfl, o2.sl, hb2⟩
    · have h1 : ¬ id < 1 := by omega
      have h2 : ¬ now < 0 := by omega
      have h3 : ¬ 1099511627776 < now := by omega
      go_upto_block 3 with fail
      clear hbad
      go_loop [9] (fun s9 => ∃ (k : Nat), k ≤ xs.length ∧ s9 = .int .i64 (k : Int) ∧ Hid (∀ j x, j < k → xs[j]? = some x → x.f0 < id)) (fun s9 => xs.length - (intOf s9).toNat)
      case atStart => exact ⟨0, by omega, rfl, Lib.hid (fun j q hj => absurd hj (by omega))⟩
      case round =>
        obtain ⟨k, hk, rfl, HK⟩ := hrel
        by_cases g1 : (k : Int) < (xs.length : Int)
        · obtain ⟨t, ht⟩ := get_at xs k (by omega)
          obtain ⟨ad, rfl⟩ := slW_addr o2.sl ht
          obtain ⟨g, hg⟩ : ∃ g, ad = ⟨g, 0, none⟩ := by
            rcases o2.2 with ⟨h0, h00⟩ | ⟨g, cap, cur, h0, _⟩
            · simp at h0
            · simp at h0; exact ⟨g, h0.1⟩
          subst hg
          obtain ⟨y0, y1⟩ := ownW_two o2 ht
          have hin : (0 : Int) ≤ (k : Int) ∧ (k : Int) < (xs.length : Int) := by omega
          have Ht := Lib.hid ht
          have Hj := Lib.hid (show k + 1 ≤ xs.length by omega)
          by_cases g2 : t.f0 < id
          · have HK2 := Lib.hid (show ∀ j x, j < k + 1 → xs[j]? = some x → x.f0 < id from fun j x hj hx => by
              rcases Nat.lt_succ_iff_lt_or_eq.1 hj with hlt | rfl
              · exact HK.out j x hlt hx
              · rw [ht] at hx; cases hx; exact g2)
            clear ht
            go_wp2_with fail
            go_round
            case rel => exact ⟨k + 1, Hj.out, by go_num, HK2⟩
            case measure => have := Hj.out; simp [intOf]; omega
          · have hp := posW_of (id := id) (by omega) HK.out (fun x hx => by rw [ht] at hx; cases hx; omega)
            have Hp := Lib.hid hp
            clear hp
            by_cases g3 : t.f0 = id
            · have hth : thereW xs id = true := by unfold thereW; rw [Hp.out, ht]; simp [g3]
              have hlt := late_there (now := now) (by rw [Hp.out]; exact ht) g3
              by_cases g4 : now < t.f1
              · have HL := Lib.hid (show seenW xs id now = (xs, 2) by unfold seenW; rw [if_neg (by simp [Hz.out]), if_pos (by right; right; right; rw [hlt]; simpa using g4)])
                clear hlt hth ht
                go_wp2_with fail
                go_ret2
                rw [HL.out]
                exact ⟨_, xs.length, c1, rfl, o2.sl, hb2⟩
              · have HL := Lib.hid (show seenW xs id now = (xs.set k ⟨id, now⟩, 0) by
                  unfold seenW
                  rw [if_neg (by simp [Hz.out]), if_neg (by rw [hlt]; simp; omega), if_pos hth, Hp.out])
                have Hset := Lib.hid (flatW_set1 xs k t now ht)
                have Hid := Lib.hid g3
                have f1 := World.ownsRow.frozenAt o2 (k * 2 + 1)
                have st := World.ownsRow.stored o2 (k * 2 + 1) (.int .i64 now)
                have o4 := st.1
                have hbw4 := hb2.grown st.2 hb2.size (fun k hk => by cases hk; exact (World.ownsRow.lt o2 g rfl).1)
                clear st hlt hth ht
                go_wp2_with fail
                go_ret2
                rw [HL.out]
                refine ⟨_, _, _, rfl, ?_, hbw4⟩
                have := (show Own w.heap.size 115 2 _ _ _ _ _ from o4).sl
                rw [Hset.out, Hid.out] at this
                exact this
            · have hth : thereW xs id = false := by unfold thereW; rw [Hp.out, ht]; simp [g3]
              have hlt := late_none (now := now) hth
              have Hth := Lib.hid hth
              have Hlt := Lib.hid hlt
              clear hth hlt ht
              have hpl : k ≤ xs.length := hk
              have Ho2 := Lib.hid o2
              have ho2c := o2.sl.le
              by_cases h5 : 50 ≤ xs.length
              · have HL := Lib.hid (show seenW xs id now = (xs, 5) by
                  unfold seenW
                  rw [if_neg (by simp [Hz.out]), if_neg (by rw [Hlt.out]; simp; omega), if_neg (by rw [Hth.out]; simp), if_pos h5])
                go_wp2_with fail
                go_ret2
                rw [HL.out]
                exact ⟨_, xs.length, c1, rfl, Ho2.out.sl, hb2⟩
              · have HL := Lib.hid (show seenW xs id now = (xs.take k ++ ⟨id, now⟩ :: xs.drop k, 0) by
                  unfold seenW
                  rw [if_neg (by simp [Hz.out]), if_neg (by rw [Hlt.out]; simp; omega), if_neg (by rw [Hth.out]; simp), if_neg h5, Hp.out])
                have hck : ¬ (c1 = k) := by omega
                have hkc : k ≤ c1 := by omega
                have HX := Lib.hid (show ∀ w', Own w.heap.size 115 2 w' (some ⟨g, 0, none⟩) xs.length c1 (flatW xs) → Sl w' 2 (some ⟨g, k * 2, none⟩) (xs.length - k) (c1 - k) (flatW (xs.drop k)) from fun w' ho => slW_drop (Own.sl ho) hk)
                obtain ⟨FX, hFX⟩ : ∃ FX, FX = flatW (xs.take k) ++ [.int .i64 id, .int .i64 now] ++ flatW (xs.drop k) := ⟨_, rfl⟩
                have HFX := Lib.hid hFX
                obtain ⟨NX, hNX⟩ : ∃ NX, NX = k + 1 + (xs.length - k) := ⟨_, rfl⟩
                have HNX := Lib.hid hNX
                clear hFX hNX
                go_upto_region 16 with fail
                --@region 34 16 rseen16.spec
                refine wp_region_runE [9, 13, 14] (fun _ _ => True) (by kernel_rfl) (by kernel_rfl) (by kernel_rfl) (R := R3 (max (k * 2) 2) w2.heap.size) (fun _ _ h => R3.below h) (fun _ _ _ => R3.trans) (fun _ _ _ _ _ => trivial) trivial ?_
                refine RunE.such (by decide) (isZ w2.heap.size 115 2) (isZ_st _ _ _ _) ?_ ?_
                · intro vs w hb hd; clear hd; have hB := hb.size; simp only [List.take, putL, Act.put, List.setIfInBounds_toArray, List.set_cons_zero, List.set_cons_succ]; unfold StepOK; go_simp; exact ⟨below_alloc1 _ _, _, rfl, World.ownsRow_lit _ #[] 0 hB (by unfold maxLen; omega) rfl⟩
                apply RunE.pure (by decide)
                · intro vs w hb hd; clear hd; simp only [List.take, putL, Act.put, List.setIfInBounds_toArray, List.set_cons_zero, List.set_cons_succ]; unfold StepOK; go_simp; exact ⟨Below.refl _ _, isV_mk _ _⟩
                apply RunE.pure (by decide)
                · intro vs w hb hd; clear hd; simp only [List.take, putL, Act.put, List.setIfInBounds_toArray, List.set_cons_zero, List.set_cons_succ]; unfold StepOK; go_simp; exact ⟨Below.refl _ _, isV_mk _ _⟩
                apply RunE.pure (by decide)
                · intro vs w hb hd; have d1 : isV _ (vs 1) w := hd 1 (by decide) (by kernel_rfl); unfold isV at d1; have d2 : isV _ (vs 2) w := hd 2 (by decide) (by kernel_rfl); unfold isV at d2; clear hd; have hx1 := hkc; simp only [List.take, putL, Act.put, List.setIfInBounds_toArray, List.set_cons_zero, List.set_cons_succ]; unfold StepOK; go_simp; exact ⟨Below.refl _ _, isV_mk _ _⟩
                refine RunE.such (by decide) (isP w2.heap.size 115 2 k (flatW (xs.take k))) (isP_st _ _ _ _ _ _ (by omega)) ?_ ?_
                · intro vs w hb hd; have d0 := hd 0 (by decide) (by kernel_rfl); simp only [TR, Nat.reduceAdd, Nat.reduceSub, List.getD_cons_zero, List.getD_cons_succ] at d0; have d3 : isV _ (vs 3) w := hd 3 (by decide) (by kernel_rfl); unfold isV at d3; clear hd; obtain ⟨b, e0, oz⟩ := isZ_elim d0; have oX := Own.below Ho2.out (R3.bel hb (Nat.le_refl _)); obtain ⟨A', d', w', hrun, o', hb', hc0⟩ := run_app0 (P := Try.prog) w w2.heap.size 62 62 115 (.agg #[.int .i64 0, .int .i64 0]) 2 16 Try.underlying62 infoIW rfl (by decide) ⟨b, 0, none⟩ oz _ k _ (flatW (xs.take k)) (slW_take (Own.sl oX) hk) (wk_one _) (by unfold maxLen; omega) (by omega) hb.size; exact stepOK_app rfl (.tmp 74) (.tmp 77) 62 rfl (by simp [Act.eval, putL, Act.put, e0]) (by simp [Act.eval, putL, Act.put, d3]) hrun hb' ⟨A', d', rfl, o', hc0⟩
                apply RunE.pure (by decide)
                · intro vs w hb hd; clear hd; simp only [List.take, putL, Act.put, List.setIfInBounds_toArray, List.set_cons_zero, List.set_cons_succ]; unfold StepOK; go_simp; exact ⟨Below.refl _ _, isV_mk _ _⟩
                apply RunE.pure (by decide)
                · intro vs w hb hd; clear hd; simp only [List.take, putL, Act.put, List.setIfInBounds_toArray, List.set_cons_zero, List.set_cons_succ]; unfold StepOK; go_simp; exact ⟨Below.refl _ _, isV_mk _ _⟩
                apply RunE.pure (by decide)
                · intro vs w hb hd; have d5 : isV _ (vs 5) w := hd 5 (by decide) (by kernel_rfl); unfold isV at d5; have d6 : isV _ (vs 6) w := hd 6 (by decide) (by kernel_rfl); unfold isV at d6; clear hd; simp only [List.take, putL, Act.put, List.setIfInBounds_toArray, List.set_cons_zero, List.set_cons_succ]; unfold StepOK; go_simp; exact ⟨Below.refl _ _, isV_mk _ _⟩
                refine RunE.such (by decide) (isX w2.heap.size 115 2 [.int .i64 id, .int .i64 now]) (isX_st _ _ _ _ _ (by omega)) ?_ ?_
                · intro vs w hb hd; have d7 : isV _ (vs 7) w := hd 7 (by decide) (by kernel_rfl); unfold isV at d7; clear hd; have hB := hb.size; simp only [List.take, putL, Act.put, List.setIfInBounds_toArray, List.set_cons_zero, List.set_cons_succ]; unfold StepOK; go_simp; exact ⟨below_alloc1 _ _, _, rfl, World.ownsRow_lit _ #[.int .i64 id, .int .i64 now] 1 hB (by unfold maxLen; omega) rfl⟩
                refine RunE.eff (by decide) (isJ w2.heap.size 115 2 (k + 1) (flatW (xs.take k) ++ [.int .i64 id, .int .i64 now])) (isJ_st _ _ _ _ _) ?_ ?_
                · intro vs w hb hd hj; have d4 := hd 4 (by decide) (by kernel_rfl); simp only [TR, Nat.reduceAdd, Nat.reduceSub, List.getD_cons_zero, List.getD_cons_succ] at d4; have d8 := hd 8 (by decide) (by kernel_rfl); simp only [TR, Nat.reduceAdd, Nat.reduceSub, List.getD_cons_zero, List.getD_cons_succ] at d8; clear hd; have hj2 := hj; (try simp only [prevE, lastV, List.mem_cons, List.not_mem_nil, or_false, Nat.reduceEqDiff, Nat.reduceAdd, if_true, if_false, reduceIte, or_true, true_or, or_self] at hj2); clear hj; obtain ⟨A4, c4, e4, o4, hz4⟩ := isP_elim d4; obtain ⟨b8, e8, o8⟩ := isX_elim d8; obtain ⟨A', d', w', hrun, o', hr'⟩ := run_app3 (P := Try.prog) w (max (k * 2) 2) w2.heap.size 62 62 115 (.agg #[.int .i64 0, .int .i64 0]) 2 16 Try.underlying62 infoIW rfl (by decide) A4 k c4 _ o4 (by by_cases h0 : k = 0; exact .inr (hz4 h0); exact .inl (by omega)) (some ⟨b8, 0, none⟩) 1 1 _ (Own.sl o8) (fun u hu => by simp at hu; rcases hu with rfl | rfl <;> rfl) (by unfold maxLen; omega) (by omega) hb.size; exact stepE_app rfl (.tmp 78) (.tmp 82) 62 rfl (by simp [Act.eval, putL, Act.put, e4]) (by simp [Act.eval, putL, Act.put, e8]) hrun hr' ⟨A', d', rfl, o'⟩
                apply RunE.pure (by decide)
                · intro vs w hb hd; clear hd; simp only [List.take, putL, Act.put, List.setIfInBounds_toArray, List.set_cons_zero, List.set_cons_succ]; unfold StepOK; go_simp; exact ⟨Below.refl _ _, isV_mk _ _⟩
                apply RunE.pure (by decide)
                · intro vs w hb hd; clear hd; simp only [List.take, putL, Act.put, List.setIfInBounds_toArray, List.set_cons_zero, List.set_cons_succ]; unfold StepOK; go_simp; exact ⟨Below.refl _ _, isV_mk _ _⟩
                apply RunE.pure (by decide)
                · intro vs w hb hd; have d10 : isV _ (vs 10) w := hd 10 (by decide) (by kernel_rfl); unfold isV at d10; have d11 : isV _ (vs 11) w := hd 11 (by decide) (by kernel_rfl); unfold isV at d11; clear hd; have hx1 := hk; have hx3 := hck; simp only [List.take, putL, Act.put, List.setIfInBounds_toArray, List.set_cons_zero, List.set_cons_succ]; unfold StepOK; go_simp; exact ⟨Below.refl _ _, isV_mk _ _⟩
                refine RunE.eff (by decide) (isJ w2.heap.size 115 2 NX FX) (isJ_st _ _ _ _ _) ?_ ?_
                · intro vs w hb hd hj; have d12 : isV _ (vs 12) w := hd 12 (by decide) (by kernel_rfl); unfold isV at d12; clear hd; have hj2 := hj; (try simp only [prevE, lastV, List.mem_cons, List.not_mem_nil, or_false, Nat.reduceEqDiff, Nat.reduceAdd, if_true, if_false, reduceIte, or_true, true_or, or_self] at hj2); clear hj; obtain ⟨A9, c9, e9, o9⟩ := hj2; have oX := Own.below Ho2.out (R3.bel hb (Nat.le_refl _)); obtain ⟨A', d', w', hrun, o', hr'⟩ := run_app3 (P := Try.prog) w (max (k * 2) 2) w2.heap.size 62 62 115 (.agg #[.int .i64 0, .int .i64 0]) 2 16 Try.underlying62 infoIW rfl (by decide) A9 (k + 1) c9 _ o9 (.inl (by omega)) _ _ _ _ (HX.out _ oX) (wk_one _) (by unfold maxLen; omega) (by omega) hb.size; exact stepE_app rfl (.tmp 83) (.tmp 86) 62 rfl (by simp [Act.eval, putL, Act.put, e9]) (by simp [Act.eval, putL, Act.put, d12]) hrun hr' ⟨A', d', by rw [HNX.out], by rw [HFX.out, HNX.out]; exact o'⟩
                refine RunE.eff (by decide) (isJ w2.heap.size 115 2 NX FX) (isJ_st _ _ _ _ _) ?_ ?_
                · intro vs w hb hd hj; have d0 := hd 0 (by decide) (by kernel_rfl); simp only [TR, Nat.reduceAdd, Nat.reduceSub, List.getD_cons_zero, List.getD_cons_succ] at d0; have d1 : isV _ (vs 1) w := hd 1 (by decide) (by kernel_rfl); unfold isV at d1; have d2 : isV _ (vs 2) w := hd 2 (by decide) (by kernel_rfl); unfold isV at d2; have d3 : isV _ (vs 3) w := hd 3 (by decide) (by kernel_rfl); unfold isV at d3; have d4 := hd 4 (by decide) (by kernel_rfl); simp only [TR, Nat.reduceAdd, Nat.reduceSub, List.getD_cons_zero, List.getD_cons_succ] at d4; have d5 : isV _ (vs 5) w := hd 5 (by decide) (by kernel_rfl); unfold isV at d5; have d6 : isV _ (vs 6) w := hd 6 (by decide) (by kernel_rfl); unfold isV at d6; have d7 : isV _ (vs 7) w := hd 7 (by decide) (by kernel_rfl); unfold isV at d7; have d8 := hd 8 (by decide) (by kernel_rfl); simp only [TR, Nat.reduceAdd, Nat.reduceSub, List.getD_cons_zero, List.getD_cons_succ] at d8; have d10 : isV _ (vs 10) w := hd 10 (by decide) (by kernel_rfl); unfold isV at d10; have d11 : isV _ (vs 11) w := hd 11 (by decide) (by kernel_rfl); unfold isV at d11; have d12 : isV _ (vs 12) w := hd 12 (by decide) (by kernel_rfl); unfold isV at d12; clear hd; have hj2 := hj; (try simp only [prevE, lastV, List.mem_cons, List.not_mem_nil, or_false, Nat.reduceEqDiff, Nat.reduceAdd, if_true, if_false, reduceIte, or_true, true_or, or_self] at hj2); clear hj; obtain ⟨A13, c13, e13, o13⟩ := hj2; simp only [List.take, putL, Act.put, List.setIfInBounds_toArray, List.set_cons_zero, List.set_cons_succ]; unfold StepE; go_simp; exact ⟨R3.below (Below.refl _ _), A13, c13, rfl, o13⟩
                apply RunE.pure (by decide)
                · intro vs w hb hd; have d0 := hd 0 (by decide) (by kernel_rfl); simp only [TR, Nat.reduceAdd, Nat.reduceSub, List.getD_cons_zero, List.getD_cons_succ] at d0; have d1 : isV _ (vs 1) w := hd 1 (by decide) (by kernel_rfl); unfold isV at d1; have d2 : isV _ (vs 2) w := hd 2 (by decide) (by kernel_rfl); unfold isV at d2; have d3 : isV _ (vs 3) w := hd 3 (by decide) (by kernel_rfl); unfold isV at d3; have d4 := hd 4 (by decide) (by kernel_rfl); simp only [TR, Nat.reduceAdd, Nat.reduceSub, List.getD_cons_zero, List.getD_cons_succ] at d4; have d5 : isV _ (vs 5) w := hd 5 (by decide) (by kernel_rfl); unfold isV at d5; have d6 : isV _ (vs 6) w := hd 6 (by decide) (by kernel_rfl); unfold isV at d6; have d7 : isV _ (vs 7) w := hd 7 (by decide) (by kernel_rfl); unfold isV at d7; have d8 := hd 8 (by decide) (by kernel_rfl); simp only [TR, Nat.reduceAdd, Nat.reduceSub, List.getD_cons_zero, List.getD_cons_succ] at d8; have d10 : isV _ (vs 10) w := hd 10 (by decide) (by kernel_rfl); unfold isV at d10; have d11 : isV _ (vs 11) w := hd 11 (by decide) (by kernel_rfl); unfold isV at d11; have d12 : isV _ (vs 12) w := hd 12 (by decide) (by kernel_rfl); unfold isV at d12; clear hd; simp only [List.take, putL, Act.put, List.setIfInBounds_toArray, List.set_cons_zero, List.set_cons_succ]; unfold StepOK; go_simp; exact ⟨Below.refl _ _, isV_mk _ _⟩
                intro vs w1 hb hd hj
                try simp only [prevE, lastV, List.mem_cons, List.not_mem_nil, or_false, Nat.reduceEqDiff, Nat.reduceAdd, if_true, if_false, reduceIte, or_true, true_or, or_self] at hj
                have e0 := hd 0 (by decide); simp only [TR, Nat.reduceAdd, Nat.reduceSub, List.getD_cons_zero, List.getD_cons_succ] at e0
                have e1 : isV _ (vs 1) w1 := hd 1 (by decide)
                have e2 : isV _ (vs 2) w1 := hd 2 (by decide)
                have e3 : isV _ (vs 3) w1 := hd 3 (by decide)
                have e4 := hd 4 (by decide); simp only [TR, Nat.reduceAdd, Nat.reduceSub, List.getD_cons_zero, List.getD_cons_succ] at e4
                have e5 : isV _ (vs 5) w1 := hd 5 (by decide)
                have e6 : isV _ (vs 6) w1 := hd 6 (by decide)
                have e7 : isV _ (vs 7) w1 := hd 7 (by decide)
                have e8 := hd 8 (by decide); simp only [TR, Nat.reduceAdd, Nat.reduceSub, List.getD_cons_zero, List.getD_cons_succ] at e8
                have e10 : isV _ (vs 10) w1 := hd 10 (by decide)
                have e11 : isV _ (vs 11) w1 := hd 11 (by decide)
                have e12 : isV _ (vs 12) w1 := hd 12 (by decide)
                have e15 : isV _ (vs 15) w1 := hd 15 (by decide)
                clear hd
                unfold isV at e1 e2 e3 e5 e6 e7 e10 e11 e12 e15
                simp only [putL, Act.put, List.setIfInBounds_toArray, List.set_cons_zero, List.set_cons_succ, e1, e2, e3, e5, e6, e7, e10, e11, e12, e15]
                clear e1 e2 e3 e5 e6 e7 e10 e11 e12 e15
                --@end
                obtain ⟨A6, c6, e6, o6⟩ := hj
                have hb6 := hb2.trans ((R3.bel hb (Nat.le_refl _)).mono hb2.size)
                simp only [e6]
                go_wp2_with fail
                go_ret2
                rw [HL.out]
                refine ⟨A6, NX, c6, rfl, ?_, hb6⟩
                have hq : flatW (xs.take k ++ ⟨id, now⟩ :: xs.drop k) = flatW (xs.take k) ++ [.int .i64 id, .int .i64 now] ++ flatW (xs.drop k) := by simp [flatW, wkC]
                rw [hq, ← HFX.out]
                exact Own.sl o6
        · have hp := posW_of (id := id) (by omega) HK.out (fun x hx => by have := (List.getElem?_eq_some_iff.1 hx).1; omega)
          have Hp := Lib.hid hp
          clear hp
          have Hth := Lib.hid (show thereW xs id = false by unfold thereW; rw [Hp.out, List.getElem?_eq_none (by omega)])
          have Hlt := Lib.hid (late_none (now := now) Hth.out)
          have hpl : k ≤ xs.length := hk
          have Ho2 := Lib.hid o2
          have ho2c := o2.sl.le
          by_cases h5 : 50 ≤ xs.length
          · have HL := Lib.hid (show seenW xs id now = (xs, 5) by
              unfold seenW
              rw [if_neg (by simp [Hz.out]), if_neg (by rw [Hlt.out]; simp; omega), if_neg (by rw [Hth.out]; simp), if_pos h5])
            go_wp2_with fail
            go_ret2
            rw [HL.out]
            exact ⟨_, xs.length, c1, rfl, Ho2.out.sl, hb2⟩
          · have HL := Lib.hid (show seenW xs id now = (xs.take k ++ ⟨id, now⟩ :: xs.drop k, 0) by
              unfold seenW
              rw [if_neg (by simp [Hz.out]), if_neg (by rw [Hlt.out]; simp; omega), if_neg (by rw [Hth.out]; simp), if_neg h5, Hp.out])
            have hkl : xs.length ≤ k := by omega
            by_cases hck : c1 = k
            · obtain rfl : k = c1 := hck.symm
              have hck : True := trivial
              have hkc : True := trivial
              have HX := Lib.hid (show ∀ w', Own w.heap.size 115 2 w' A1 xs.length k (flatW xs) → Sl w' 2 A1 0 0 (flatW (xs.drop k)) from fun w' ho => by
                rw [List.drop_of_length_le (by omega)]
                exact ⟨fun j u hj => by simp [flatW] at hj, rfl, Nat.le_refl _, fun _ => ⟨rfl, rfl⟩⟩)
              obtain ⟨FX, hFX⟩ : ∃ FX, FX = flatW (xs.take k) ++ [.int .i64 id, .int .i64 now] ++ flatW (xs.drop k) := ⟨_, rfl⟩
              have HFX := Lib.hid hFX
              obtain ⟨NX, hNX⟩ : ∃ NX, NX = k + 1 + 0 := ⟨_, rfl⟩
              have HNX := Lib.hid hNX
              clear hFX hNX
              go_upto_region 16 with fail
              --@region 34 16 rseen16.spec
              refine wp_region_runE [9, 13, 14] (fun _ _ => True) (by kernel_rfl) (by kernel_rfl) (by kernel_rfl) (R := R3 (max (k * 2) 2) w2.heap.size) (fun _ _ h => R3.below h) (fun _ _ _ => R3.trans) (fun _ _ _ _ _ => trivial) trivial ?_
              refine RunE.such (by decide) (isZ w2.heap.size 115 2) (isZ_st _ _ _ _) ?_ ?_
              · intro vs w hb hd; clear hd; have hB := hb.size; simp only [List.take, putL, Act.put, List.setIfInBounds_toArray, List.set_cons_zero, List.set_cons_succ]; unfold StepOK; go_simp; exact ⟨below_alloc1 _ _, _, rfl, World.ownsRow_lit _ #[] 0 hB (by unfold maxLen; omega) rfl⟩
              apply RunE.pure (by decide)
              · intro vs w hb hd; clear hd; simp only [List.take, putL, Act.put, List.setIfInBounds_toArray, List.set_cons_zero, List.set_cons_succ]; unfold StepOK; go_simp; exact ⟨Below.refl _ _, isV_mk _ _⟩
              apply RunE.pure (by decide)
              · intro vs w hb hd; clear hd; simp only [List.take, putL, Act.put, List.setIfInBounds_toArray, List.set_cons_zero, List.set_cons_succ]; unfold StepOK; go_simp; exact ⟨Below.refl _ _, isV_mk _ _⟩
              apply RunE.pure (by decide)
              · intro vs w hb hd; have d1 : isV _ (vs 1) w := hd 1 (by decide) (by kernel_rfl); unfold isV at d1; have d2 : isV _ (vs 2) w := hd 2 (by decide) (by kernel_rfl); unfold isV at d2; clear hd; have hx1 := hkc; simp only [List.take, putL, Act.put, List.setIfInBounds_toArray, List.set_cons_zero, List.set_cons_succ]; unfold StepOK; go_simp; exact ⟨Below.refl _ _, isV_mk _ _⟩
              refine RunE.such (by decide) (isP w2.heap.size 115 2 k (flatW (xs.take k))) (isP_st _ _ _ _ _ _ (by omega)) ?_ ?_
              · intro vs w hb hd; have d0 := hd 0 (by decide) (by kernel_rfl); simp only [TR, Nat.reduceAdd, Nat.reduceSub, List.getD_cons_zero, List.getD_cons_succ] at d0; have d3 : isV _ (vs 3) w := hd 3 (by decide) (by kernel_rfl); unfold isV at d3; clear hd; obtain ⟨b, e0, oz⟩ := isZ_elim d0; have oX := Own.below Ho2.out (R3.bel hb (Nat.le_refl _)); obtain ⟨A', d', w', hrun, o', hb', hc0⟩ := run_app0 (P := Try.prog) w w2.heap.size 62 62 115 (.agg #[.int .i64 0, .int .i64 0]) 2 16 Try.underlying62 infoIW rfl (by decide) ⟨b, 0, none⟩ oz _ k _ (flatW (xs.take k)) (slW_take (Own.sl oX) hk) (wk_one _) (by unfold maxLen; omega) (by omega) hb.size; exact stepOK_app rfl (.tmp 74) (.tmp 77) 62 rfl (by simp [Act.eval, putL, Act.put, e0]) (by simp [Act.eval, putL, Act.put, d3]) hrun hb' ⟨A', d', rfl, o', hc0⟩
              apply RunE.pure (by decide)
              · intro vs w hb hd; clear hd; simp only [List.take, putL, Act.put, List.setIfInBounds_toArray, List.set_cons_zero, List.set_cons_succ]; unfold StepOK; go_simp; exact ⟨Below.refl _ _, isV_mk _ _⟩
              apply RunE.pure (by decide)
              · intro vs w hb hd; clear hd; simp only [List.take, putL, Act.put, List.setIfInBounds_toArray, List.set_cons_zero, List.set_cons_succ]; unfold StepOK; go_simp; exact ⟨Below.refl _ _, isV_mk _ _⟩
              apply RunE.pure (by decide)
              · intro vs w hb hd; have d5 : isV _ (vs 5) w := hd 5 (by decide) (by kernel_rfl); unfold isV at d5; have d6 : isV _ (vs 6) w := hd 6 (by decide) (by kernel_rfl); unfold isV at d6; clear hd; simp only [List.take, putL, Act.put, List.setIfInBounds_toArray, List.set_cons_zero, List.set_cons_succ]; unfold StepOK; go_simp; exact ⟨Below.refl _ _, isV_mk _ _⟩
              refine RunE.such (by decide) (isX w2.heap.size 115 2 [.int .i64 id, .int .i64 now]) (isX_st _ _ _ _ _ (by omega)) ?_ ?_
              · intro vs w hb hd; have d7 : isV _ (vs 7) w := hd 7 (by decide) (by kernel_rfl); unfold isV at d7; clear hd; have hB := hb.size; simp only [List.take, putL, Act.put, List.setIfInBounds_toArray, List.set_cons_zero, List.set_cons_succ]; unfold StepOK; go_simp; exact ⟨below_alloc1 _ _, _, rfl, World.ownsRow_lit _ #[.int .i64 id, .int .i64 now] 1 hB (by unfold maxLen; omega) rfl⟩
              refine RunE.eff (by decide) (isJ w2.heap.size 115 2 (k + 1) (flatW (xs.take k) ++ [.int .i64 id, .int .i64 now])) (isJ_st _ _ _ _ _) ?_ ?_
              · intro vs w hb hd hj; have d4 := hd 4 (by decide) (by kernel_rfl); simp only [TR, Nat.reduceAdd, Nat.reduceSub, List.getD_cons_zero, List.getD_cons_succ] at d4; have d8 := hd 8 (by decide) (by kernel_rfl); simp only [TR, Nat.reduceAdd, Nat.reduceSub, List.getD_cons_zero, List.getD_cons_succ] at d8; clear hd; have hj2 := hj; (try simp only [prevE, lastV, List.mem_cons, List.not_mem_nil, or_false, Nat.reduceEqDiff, Nat.reduceAdd, if_true, if_false, reduceIte, or_true, true_or, or_self] at hj2); clear hj; obtain ⟨A4, c4, e4, o4, hz4⟩ := isP_elim d4; obtain ⟨b8, e8, o8⟩ := isX_elim d8; obtain ⟨A', d', w', hrun, o', hr'⟩ := run_app3 (P := Try.prog) w (max (k * 2) 2) w2.heap.size 62 62 115 (.agg #[.int .i64 0, .int .i64 0]) 2 16 Try.underlying62 infoIW rfl (by decide) A4 k c4 _ o4 (by by_cases h0 : k = 0; exact .inr (hz4 h0); exact .inl (by omega)) (some ⟨b8, 0, none⟩) 1 1 _ (Own.sl o8) (fun u hu => by simp at hu; rcases hu with rfl | rfl <;> rfl) (by unfold maxLen; omega) (by omega) hb.size; exact stepE_app rfl (.tmp 78) (.tmp 82) 62 rfl (by simp [Act.eval, putL, Act.put, e4]) (by simp [Act.eval, putL, Act.put, e8]) hrun hr' ⟨A', d', rfl, o'⟩
              apply RunE.pure (by decide)
              · intro vs w hb hd; clear hd; simp only [List.take, putL, Act.put, List.setIfInBounds_toArray, List.set_cons_zero, List.set_cons_succ]; unfold StepOK; go_simp; exact ⟨Below.refl _ _, isV_mk _ _⟩
              apply RunE.pure (by decide)
              · intro vs w hb hd; clear hd; simp only [List.take, putL, Act.put, List.setIfInBounds_toArray, List.set_cons_zero, List.set_cons_succ]; unfold StepOK; go_simp; exact ⟨Below.refl _ _, isV_mk _ _⟩
              apply RunE.pure (by decide)
              · intro vs w hb hd; have d10 : isV _ (vs 10) w := hd 10 (by decide) (by kernel_rfl); unfold isV at d10; have d11 : isV _ (vs 11) w := hd 11 (by decide) (by kernel_rfl); unfold isV at d11; clear hd; have hx1 := hk; have hx3 := hck; simp only [List.take, putL, Act.put, List.setIfInBounds_toArray, List.set_cons_zero, List.set_cons_succ]; unfold StepOK; go_simp; exact ⟨Below.refl _ _, isV_mk _ _⟩
              refine RunE.eff (by decide) (isJ w2.heap.size 115 2 NX FX) (isJ_st _ _ _ _ _) ?_ ?_
              · intro vs w hb hd hj; have d12 : isV _ (vs 12) w := hd 12 (by decide) (by kernel_rfl); unfold isV at d12; clear hd; have hj2 := hj; (try simp only [prevE, lastV, List.mem_cons, List.not_mem_nil, or_false, Nat.reduceEqDiff, Nat.reduceAdd, if_true, if_false, reduceIte, or_true, true_or, or_self] at hj2); clear hj; obtain ⟨A9, c9, e9, o9⟩ := hj2; have oX := Own.below Ho2.out (R3.bel hb (Nat.le_refl _)); obtain ⟨A', d', w', hrun, o', hr'⟩ := run_app3 (P := Try.prog) w (max (k * 2) 2) w2.heap.size 62 62 115 (.agg #[.int .i64 0, .int .i64 0]) 2 16 Try.underlying62 infoIW rfl (by decide) A9 (k + 1) c9 _ o9 (.inl (by omega)) _ _ _ _ (HX.out _ oX) (wk_one _) (by unfold maxLen; omega) (by omega) hb.size; exact stepE_app rfl (.tmp 83) (.tmp 86) 62 rfl (by simp [Act.eval, putL, Act.put, e9]) (by simp [Act.eval, putL, Act.put, d12]) hrun hr' ⟨A', d', by rw [HNX.out], by rw [HFX.out, HNX.out]; exact o'⟩
              refine RunE.eff (by decide) (isJ w2.heap.size 115 2 NX FX) (isJ_st _ _ _ _ _) ?_ ?_
              · intro vs w hb hd hj; have d0 := hd 0 (by decide) (by kernel_rfl); simp only [TR, Nat.reduceAdd, Nat.reduceSub, List.getD_cons_zero, List.getD_cons_succ] at d0; have d1 : isV _ (vs 1) w := hd 1 (by decide) (by kernel_rfl); unfold isV at d1; have d2 : isV _ (vs 2) w := hd 2 (by decide) (by kernel_rfl); unfold isV at d2; have d3 : isV _ (vs 3) w := hd 3 (by decide) (by kernel_rfl); unfold isV at d3; have d4 := hd 4 (by decide) (by kernel_rfl); simp only [TR, Nat.reduceAdd, Nat.reduceSub, List.getD_cons_zero, List.getD_cons_succ] at d4; have d5 : isV _ (vs 5) w := hd 5 (by decide) (by kernel_rfl); unfold isV at d5; have d6 : isV _ (vs 6) w := hd 6 (by decide) (by kernel_rfl); unfold isV at d6; have d7 : isV _ (vs 7) w := hd 7 (by decide) (by kernel_rfl); unfold isV at d7; have d8 := hd 8 (by decide) (by kernel_rfl); simp only [TR, Nat.reduceAdd, Nat.reduceSub, List.getD_cons_zero, List.getD_cons_succ] at d8; have d10 : isV _ (vs 10) w := hd 10 (by decide) (by kernel_rfl); unfold isV at d10; have d11 : isV _ (vs 11) w := hd 11 (by decide) (by kernel_rfl); unfold isV at d11; have d12 : isV _ (vs 12) w := hd 12 (by decide) (by kernel_rfl); unfold isV at d12; clear hd; have hj2 := hj; (try simp only [prevE, lastV, List.mem_cons, List.not_mem_nil, or_false, Nat.reduceEqDiff, Nat.reduceAdd, if_true, if_false, reduceIte, or_true, true_or, or_self] at hj2); clear hj; obtain ⟨A13, c13, e13, o13⟩ := hj2; simp only [List.take, putL, Act.put, List.setIfInBounds_toArray, List.set_cons_zero, List.set_cons_succ]; unfold StepE; go_simp; exact ⟨R3.below (Below.refl _ _), A13, c13, rfl, o13⟩
              apply RunE.pure (by decide)
              · intro vs w hb hd; have d0 := hd 0 (by decide) (by kernel_rfl); simp only [TR, Nat.reduceAdd, Nat.reduceSub, List.getD_cons_zero, List.getD_cons_succ] at d0; have d1 : isV _ (vs 1) w := hd 1 (by decide) (by kernel_rfl); unfold isV at d1; have d2 : isV _ (vs 2) w := hd 2 (by decide) (by kernel_rfl); unfold isV at d2; have d3 : isV _ (vs 3) w := hd 3 (by decide) (by kernel_rfl); unfold isV at d3; have d4 := hd 4 (by decide) (by kernel_rfl); simp only [TR, Nat.reduceAdd, Nat.reduceSub, List.getD_cons_zero, List.getD_cons_succ] at d4; have d5 : isV _ (vs 5) w := hd 5 (by decide) (by kernel_rfl); unfold isV at d5; have d6 : isV _ (vs 6) w := hd 6 (by decide) (by kernel_rfl); unfold isV at d6; have d7 : isV _ (vs 7) w := hd 7 (by decide) (by kernel_rfl); unfold isV at d7; have d8 := hd 8 (by decide) (by kernel_rfl); simp only [TR, Nat.reduceAdd, Nat.reduceSub, List.getD_cons_zero, List.getD_cons_succ] at d8; have d10 : isV _ (vs 10) w := hd 10 (by decide) (by kernel_rfl); unfold isV at d10; have d11 : isV _ (vs 11) w := hd 11 (by decide) (by kernel_rfl); unfold isV at d11; have d12 : isV _ (vs 12) w := hd 12 (by decide) (by kernel_rfl); unfold isV at d12; clear hd; simp only [List.take, putL, Act.put, List.setIfInBounds_toArray, List.set_cons_zero, List.set_cons_succ]; unfold StepOK; go_simp; exact ⟨Below.refl _ _, isV_mk _ _⟩
              intro vs w1 hb hd hj
              try simp only [prevE, lastV, List.mem_cons, List.not_mem_nil, or_false, Nat.reduceEqDiff, Nat.reduceAdd, if_true, if_false, reduceIte, or_true, true_or, or_self] at hj
              have e0 := hd 0 (by decide); simp only [TR, Nat.reduceAdd, Nat.reduceSub, List.getD_cons_zero, List.getD_cons_succ] at e0
              have e1 : isV _ (vs 1) w1 := hd 1 (by decide)
              have e2 : isV _ (vs 2) w1 := hd 2 (by decide)
              have e3 : isV _ (vs 3) w1 := hd 3 (by decide)
              have e4 := hd 4 (by decide); simp only [TR, Nat.reduceAdd, Nat.reduceSub, List.getD_cons_zero, List.getD_cons_succ] at e4
              have e5 : isV _ (vs 5) w1 := hd 5 (by decide)
              have e6 : isV _ (vs 6) w1 := hd 6 (by decide)
              have e7 : isV _ (vs 7) w1 := hd 7 (by decide)
              have e8 := hd 8 (by decide); simp only [TR, Nat.reduceAdd, Nat.reduceSub, List.getD_cons_zero, List.getD_cons_succ] at e8
              have e10 : isV _ (vs 10) w1 := hd 10 (by decide)
              have e11 : isV _ (vs 11) w1 := hd 11 (by decide)
              have e12 : isV _ (vs 12) w1 := hd 12 (by decide)
              have e15 : isV _ (vs 15) w1 := hd 15 (by decide)
              clear hd
              unfold isV at e1 e2 e3 e5 e6 e7 e10 e11 e12 e15
              simp only [putL, Act.put, List.setIfInBounds_toArray, List.set_cons_zero, List.set_cons_succ, e1, e2, e3, e5, e6, e7, e10, e11, e12, e15]
              clear e1 e2 e3 e5 e6 e7 e10 e11 e12 e15
              --@end
              obtain ⟨A6, c6, e6, o6⟩ := hj
              have hb6 := hb2.trans ((R3.bel hb (Nat.le_refl _)).mono hb2.size)
              simp only [e6]
              go_wp2_with fail
              go_ret2
              rw [HL.out]
              refine ⟨A6, NX, c6, rfl, ?_, hb6⟩
              have hq : flatW (xs.take k ++ ⟨id, now⟩ :: xs.drop k) = flatW (xs.take k) ++ [.int .i64 id, .int .i64 now] ++ flatW (xs.drop k) := by simp [flatW, wkC]
              rw [hq, ← HFX.out]
              exact Own.sl o6
            · have hkc : k ≤ c1 := by omega
              obtain ⟨g, rfl⟩ : ∃ g, A1 = some ⟨g, 0, none⟩ := by
                rcases o2.2 with ⟨h0, h00⟩ | ⟨g, cap, cur, h0, _⟩
                · simp at h0; omega
                · simp at h0; exact ⟨g, h0.1⟩
              have HX := Lib.hid (show ∀ w', Own w.heap.size 115 2 w' (some ⟨g, 0, none⟩) xs.length c1 (flatW xs) → Sl w' 2 (some ⟨g, k * 2, none⟩) 0 (c1 - k) (flatW (xs.drop k)) from fun w' ho => by have h := slW_drop (Own.sl ho) hk; rwa [show xs.length - k = 0 by omega] at h)
              obtain ⟨FX, hFX⟩ : ∃ FX, FX = flatW (xs.take k) ++ [.int .i64 id, .int .i64 now] ++ flatW (xs.drop k) := ⟨_, rfl⟩
              have HFX := Lib.hid hFX
              obtain ⟨NX, hNX⟩ : ∃ NX, NX = k + 1 + 0 := ⟨_, rfl⟩
              have HNX := Lib.hid hNX
              clear hFX hNX
              go_upto_region 16 with fail
              --@region 34 16 rseen16.spec
              refine wp_region_runE [9, 13, 14] (fun _ _ => True) (by kernel_rfl) (by kernel_rfl) (by kernel_rfl) (R := R3 (max (k * 2) 2) w2.heap.size) (fun _ _ h => R3.below h) (fun _ _ _ => R3.trans) (fun _ _ _ _ _ => trivial) trivial ?_
              refine RunE.such (by decide) (isZ w2.heap.size 115 2) (isZ_st _ _ _ _) ?_ ?_
              · intro vs w hb hd; clear hd; have hB := hb.size; simp only [List.take, putL, Act.put, List.setIfInBounds_toArray, List.set_cons_zero, List.set_cons_succ]; unfold StepOK; go_simp; exact ⟨below_alloc1 _ _, _, rfl, World.ownsRow_lit _ #[] 0 hB (by unfold maxLen; omega) rfl⟩
              apply RunE.pure (by decide)
              · intro vs w hb hd; clear hd; simp only [List.take, putL, Act.put, List.setIfInBounds_toArray, List.set_cons_zero, List.set_cons_succ]; unfold StepOK; go_simp; exact ⟨Below.refl _ _, isV_mk _ _⟩
              apply RunE.pure (by decide)
              · intro vs w hb hd; clear hd; simp only [List.take, putL, Act.put, List.setIfInBounds_toArray, List.set_cons_zero, List.set_cons_succ]; unfold StepOK; go_simp; exact ⟨Below.refl _ _, isV_mk _ _⟩
              apply RunE.pure (by decide)
              · intro vs w hb hd; have d1 : isV _ (vs 1) w := hd 1 (by decide) (by kernel_rfl); unfold isV at d1; have d2 : isV _ (vs 2) w := hd 2 (by decide) (by kernel_rfl); unfold isV at d2; clear hd; have hx1 := hkc; simp only [List.take, putL, Act.put, List.setIfInBounds_toArray, List.set_cons_zero, List.set_cons_succ]; unfold StepOK; go_simp; exact ⟨Below.refl _ _, isV_mk _ _⟩
              refine RunE.such (by decide) (isP w2.heap.size 115 2 k (flatW (xs.take k))) (isP_st _ _ _ _ _ _ (by omega)) ?_ ?_
              · intro vs w hb hd; have d0 := hd 0 (by decide) (by kernel_rfl); simp only [TR, Nat.reduceAdd, Nat.reduceSub, List.getD_cons_zero, List.getD_cons_succ] at d0; have d3 : isV _ (vs 3) w := hd 3 (by decide) (by kernel_rfl); unfold isV at d3; clear hd; obtain ⟨b, e0, oz⟩ := isZ_elim d0; have oX := Own.below Ho2.out (R3.bel hb (Nat.le_refl _)); obtain ⟨A', d', w', hrun, o', hb', hc0⟩ := run_app0 (P := Try.prog) w w2.heap.size 62 62 115 (.agg #[.int .i64 0, .int .i64 0]) 2 16 Try.underlying62 infoIW rfl (by decide) ⟨b, 0, none⟩ oz _ k _ (flatW (xs.take k)) (slW_take (Own.sl oX) hk) (wk_one _) (by unfold maxLen; omega) (by omega) hb.size; exact stepOK_app rfl (.tmp 74) (.tmp 77) 62 rfl (by simp [Act.eval, putL, Act.put, e0]) (by simp [Act.eval, putL, Act.put, d3]) hrun hb' ⟨A', d', rfl, o', hc0⟩
              apply RunE.pure (by decide)
              · intro vs w hb hd; clear hd; simp only [List.take, putL, Act.put, List.setIfInBounds_toArray, List.set_cons_zero, List.set_cons_succ]; unfold StepOK; go_simp; exact ⟨Below.refl _ _, isV_mk _ _⟩
              apply RunE.pure (by decide)
              · intro vs w hb hd; clear hd; simp only [List.take, putL, Act.put, List.setIfInBounds_toArray, List.set_cons_zero, List.set_cons_succ]; unfold StepOK; go_simp; exact ⟨Below.refl _ _, isV_mk _ _⟩
              apply RunE.pure (by decide)
              · intro vs w hb hd; have d5 : isV _ (vs 5) w := hd 5 (by decide) (by kernel_rfl); unfold isV at d5; have d6 : isV _ (vs 6) w := hd 6 (by decide) (by kernel_rfl); unfold isV at d6; clear hd; simp only [List.take, putL, Act.put, List.setIfInBounds_toArray, List.set_cons_zero, List.set_cons_succ]; unfold StepOK; go_simp; exact ⟨Below.refl _ _, isV_mk _ _⟩
              refine RunE.such (by decide) (isX w2.heap.size 115 2 [.int .i64 id, .int .i64 now]) (isX_st _ _ _ _ _ (by omega)) ?_ ?_
              · intro vs w hb hd; have d7 : isV _ (vs 7) w := hd 7 (by decide) (by kernel_rfl); unfold isV at d7; clear hd; have hB := hb.size; simp only [List.take, putL, Act.put, List.setIfInBounds_toArray, List.set_cons_zero, List.set_cons_succ]; unfold StepOK; go_simp; exact ⟨below_alloc1 _ _, _, rfl, World.ownsRow_lit _ #[.int .i64 id, .int .i64 now] 1 hB (by unfold maxLen; omega) rfl⟩
              refine RunE.eff (by decide) (isJ w2.heap.size 115 2 (k + 1) (flatW (xs.take k) ++ [.int .i64 id, .int .i64 now])) (isJ_st _ _ _ _ _) ?_ ?_
              · intro vs w hb hd hj; have d4 := hd 4 (by decide) (by kernel_rfl); simp only [TR, Nat.reduceAdd, Nat.reduceSub, List.getD_cons_zero, List.getD_cons_succ] at d4; have d8 := hd 8 (by decide) (by kernel_rfl); simp only [TR, Nat.reduceAdd, Nat.reduceSub, List.getD_cons_zero, List.getD_cons_succ] at d8; clear hd; have hj2 := hj; (try simp only [prevE, lastV, List.mem_cons, List.not_mem_nil, or_false, Nat.reduceEqDiff, Nat.reduceAdd, if_true, if_false, reduceIte, or_true, true_or, or_self] at hj2); clear hj; obtain ⟨A4, c4, e4, o4, hz4⟩ := isP_elim d4; obtain ⟨b8, e8, o8⟩ := isX_elim d8; obtain ⟨A', d', w', hrun, o', hr'⟩ := run_app3 (P := Try.prog) w (max (k * 2) 2) w2.heap.size 62 62 115 (.agg #[.int .i64 0, .int .i64 0]) 2 16 Try.underlying62 infoIW rfl (by decide) A4 k c4 _ o4 (by by_cases h0 : k = 0; exact .inr (hz4 h0); exact .inl (by omega)) (some ⟨b8, 0, none⟩) 1 1 _ (Own.sl o8) (fun u hu => by simp at hu; rcases hu with rfl | rfl <;> rfl) (by unfold maxLen; omega) (by omega) hb.size; exact stepE_app rfl (.tmp 78) (.tmp 82) 62 rfl (by simp [Act.eval, putL, Act.put, e4]) (by simp [Act.eval, putL, Act.put, e8]) hrun hr' ⟨A', d', rfl, o'⟩
              apply RunE.pure (by decide)
              · intro vs w hb hd; clear hd; simp only [List.take, putL, Act.put, List.setIfInBounds_toArray, List.set_cons_zero, List.set_cons_succ]; unfold StepOK; go_simp; exact ⟨Below.refl _ _, isV_mk _ _⟩
              apply RunE.pure (by decide)
              · intro vs w hb hd; clear hd; simp only [List.take, putL, Act.put, List.setIfInBounds_toArray, List.set_cons_zero, List.set_cons_succ]; unfold StepOK; go_simp; exact ⟨Below.refl _ _, isV_mk _ _⟩
              apply RunE.pure (by decide)
              · intro vs w hb hd; have d10 : isV _ (vs 10) w := hd 10 (by decide) (by kernel_rfl); unfold isV at d10; have d11 : isV _ (vs 11) w := hd 11 (by decide) (by kernel_rfl); unfold isV at d11; clear hd; have hx1 := hk; have hx3 := hck; simp only [List.take, putL, Act.put, List.setIfInBounds_toArray, List.set_cons_zero, List.set_cons_succ]; unfold StepOK; go_simp; exact ⟨Below.refl _ _, isV_mk _ _⟩
              refine RunE.eff (by decide) (isJ w2.heap.size 115 2 NX FX) (isJ_st _ _ _ _ _) ?_ ?_
              · intro vs w hb hd hj; have d12 : isV _ (vs 12) w := hd 12 (by decide) (by kernel_rfl); unfold isV at d12; clear hd; have hj2 := hj; (try simp only [prevE, lastV, List.mem_cons, List.not_mem_nil, or_false, Nat.reduceEqDiff, Nat.reduceAdd, if_true, if_false, reduceIte, or_true, true_or, or_self] at hj2); clear hj; obtain ⟨A9, c9, e9, o9⟩ := hj2; have oX := Own.below Ho2.out (R3.bel hb (Nat.le_refl _)); obtain ⟨A', d', w', hrun, o', hr'⟩ := run_app3 (P := Try.prog) w (max (k * 2) 2) w2.heap.size 62 62 115 (.agg #[.int .i64 0, .int .i64 0]) 2 16 Try.underlying62 infoIW rfl (by decide) A9 (k + 1) c9 _ o9 (.inl (by omega)) _ _ _ _ (HX.out _ oX) (wk_one _) (by unfold maxLen; omega) (by omega) hb.size; exact stepE_app rfl (.tmp 83) (.tmp 86) 62 rfl (by simp [Act.eval, putL, Act.put, e9]) (by simp [Act.eval, putL, Act.put, d12]) hrun hr' ⟨A', d', by rw [HNX.out], by rw [HFX.out, HNX.out]; exact o'⟩
              refine RunE.eff (by decide) (isJ w2.heap.size 115 2 NX FX) (isJ_st _ _ _ _ _) ?_ ?_
              · intro vs w hb hd hj; have d0 := hd 0 (by decide) (by kernel_rfl); simp only [TR, Nat.reduceAdd, Nat.reduceSub, List.getD_cons_zero, List.getD_cons_succ] at d0; have d1 : isV _ (vs 1) w := hd 1 (by decide) (by kernel_rfl); unfold isV at d1; have d2 : isV _ (vs 2) w := hd 2 (by decide) (by kernel_rfl); unfold isV at d2; have d3 : isV _ (vs 3) w := hd 3 (by decide) (by kernel_rfl); unfold isV at d3; have d4 := hd 4 (by decide) (by kernel_rfl); simp only [TR, Nat.reduceAdd, Nat.reduceSub, List.getD_cons_zero, List.getD_cons_succ] at d4; have d5 : isV _ (vs 5) w := hd 5 (by decide) (by kernel_rfl); unfold isV at d5; have d6 : isV _ (vs 6) w := hd 6 (by decide) (by kernel_rfl); unfold isV at d6; have d7 : isV _ (vs 7) w := hd 7 (by decide) (by kernel_rfl); unfold isV at d7; have d8 := hd 8 (by decide) (by kernel_rfl); simp only [TR, Nat.reduceAdd, Nat.reduceSub, List.getD_cons_zero, List.getD_cons_succ] at d8; have d10 : isV _ (vs 10) w := hd 10 (by decide) (by kernel_rfl); unfold isV at d10; have d11 : isV _ (vs 11) w := hd 11 (by decide) (by kernel_rfl); unfold isV at d11; have d12 : isV _ (vs 12) w := hd 12 (by decide) (by kernel_rfl); unfold isV at d12; clear hd; have hj2 := hj; (try simp only [prevE, lastV, List.mem_cons, List.not_mem_nil, or_false, Nat.reduceEqDiff, Nat.reduceAdd, if_true, if_false, reduceIte, or_true, true_or, or_self] at hj2); clear hj; obtain ⟨A13, c13, e13, o13⟩ := hj2; simp only [List.take, putL, Act.put, List.setIfInBounds_toArray, List.set_cons_zero, List.set_cons_succ]; unfold StepE; go_simp; exact ⟨R3.below (Below.refl _ _), A13, c13, rfl, o13⟩
              apply RunE.pure (by decide)
              · intro vs w hb hd; have d0 := hd 0 (by decide) (by kernel_rfl); simp only [TR, Nat.reduceAdd, Nat.reduceSub, List.getD_cons_zero, List.getD_cons_succ] at d0; have d1 : isV _ (vs 1) w := hd 1 (by decide) (by kernel_rfl); unfold isV at d1; have d2 : isV _ (vs 2) w := hd 2 (by decide) (by kernel_rfl); unfold isV at d2; have d3 : isV _ (vs 3) w := hd 3 (by decide) (by kernel_rfl); unfold isV at d3; have d4 := hd 4 (by decide) (by kernel_rfl); simp only [TR, Nat.reduceAdd, Nat.reduceSub, List.getD_cons_zero, List.getD_cons_succ] at d4; have d5 : isV _ (vs 5) w := hd 5 (by decide) (by kernel_rfl); unfold isV at d5; have d6 : isV _ (vs 6) w := hd 6 (by decide) (by kernel_rfl); unfold isV at d6; have d7 : isV _ (vs 7) w := hd 7 (by decide) (by kernel_rfl); unfold isV at d7; have d8 := hd 8 (by decide) (by kernel_rfl); simp only [TR, Nat.reduceAdd, Nat.reduceSub, List.getD_cons_zero, List.getD_cons_succ] at d8; have d10 : isV _ (vs 10) w := hd 10 (by decide) (by kernel_rfl); unfold isV at d10; have d11 : isV _ (vs 11) w := hd 11 (by decide) (by kernel_rfl); unfold isV at d11; have d12 : isV _ (vs 12) w := hd 12 (by decide) (by kernel_rfl); unfold isV at d12; clear hd; simp only [List.take, putL, Act.put, List.setIfInBounds_toArray, List.set_cons_zero, List.set_cons_succ]; unfold StepOK; go_simp; exact ⟨Below.refl _ _, isV_mk _ _⟩
              intro vs w1 hb hd hj
              try simp only [prevE, lastV, List.mem_cons, List.not_mem_nil, or_false, Nat.reduceEqDiff, Nat.reduceAdd, if_true, if_false, reduceIte, or_true, true_or, or_self] at hj
              have e0 := hd 0 (by decide); simp only [TR, Nat.reduceAdd, Nat.reduceSub, List.getD_cons_zero, List.getD_cons_succ] at e0
              have e1 : isV _ (vs 1) w1 := hd 1 (by decide)
              have e2 : isV _ (vs 2) w1 := hd 2 (by decide)
              have e3 : isV _ (vs 3) w1 := hd 3 (by decide)
              have e4 := hd 4 (by decide); simp only [TR, Nat.reduceAdd, Nat.reduceSub, List.getD_cons_zero, List.getD_cons_succ] at e4
              have e5 : isV _ (vs 5) w1 := hd 5 (by decide)
              have e6 : isV _ (vs 6) w1 := hd 6 (by decide)
              have e7 : isV _ (vs 7) w1 := hd 7 (by decide)
              have e8 := hd 8 (by decide); simp only [TR, Nat.reduceAdd, Nat.reduceSub, List.getD_cons_zero, List.getD_cons_succ] at e8
              have e10 : isV _ (vs 10) w1 := hd 10 (by decide)
              have e11 : isV _ (vs 11) w1 := hd 11 (by decide)
              have e12 : isV _ (vs 12) w1 := hd 12 (by decide)
              have e15 : isV _ (vs 15) w1 := hd 15 (by decide)
              clear hd
              unfold isV at e1 e2 e3 e5 e6 e7 e10 e11 e12 e15
              simp only [putL, Act.put, List.setIfInBounds_toArray, List.set_cons_zero, List.set_cons_succ, e1, e2, e3, e5, e6, e7, e10, e11, e12, e15]
              clear e1 e2 e3 e5 e6 e7 e10 e11 e12 e15
              --@end
              obtain ⟨A6, c6, e6, o6⟩ := hj
              have hb6 := hb2.trans ((R3.bel hb (Nat.le_refl _)).mono hb2.size)
              simp only [e6]
              go_wp2_with fail
              go_ret2
              rw [HL.out]
              refine ⟨A6, NX, c6, rfl, ?_, hb6⟩
              have hq : flatW (xs.take k ++ ⟨id, now⟩ :: xs.drop k) = flatW (xs.take k) ++ [.int .i64 id, .int .i64 now] ++ flatW (xs.drop k) := by simp [flatW, wkC]
              rw [hq, ← HFX.out]
              exact Own.sl o6
end Go.Proofs.Ytphjmbhlokkdiaa
