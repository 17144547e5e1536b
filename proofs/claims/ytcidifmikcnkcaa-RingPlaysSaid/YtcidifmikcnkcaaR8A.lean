import Derived.Test.YtcidifmikcnkcaaR8M
/- The document's rings, by value: right, New, Of. -/
namespace Go.Proofs.Ytcidifmikcnkcaa
open Go.RowKit
set_option linter.unusedSimpArgs false
set_option linter.unusedVariables false

theorem box_cells8 (w : World) (cs : List Value) (t : TypeId) (j : Nat) (u : Value) (h : cs[j]? = some u) : (w.alloc (.cells cs.toArray t)).cell? ⟨w.heap.size, j, none⟩ = some u := by
  obtain ⟨a, h1, h2⟩ := (sl_cells w cs t).cells j u h
  cases h1
  rwa [add_plain] at h2
theorem cell8 {w w' : World} {a : Addr} {v : Value} (hb : Below w.heap.size w w') (h : w.cell? a = some v) : w'.cell? a = some v :=
  (World.cell?_of_block (hb.block _ (World.block_lt_of_cell? _ _ h))).trans h
theorem results8_0 {fn : Func} {t : Tmp} {ty : TypeId} (h : fn.results = #[.cell t ty]) (tmps : Array Value) (P : Program) (w : World) (a : Addr) (ht : tmps.getD t undef = .pointer (some a)) (x : Value) (hl : (loadVar ty a).run P w = .ok x w) :
    (results fn tmps).run P w = .ok x w := by
  simp only [Array.getD_eq_getD_getElem?] at ht
  simp [results, h, ht, asAddr, Sem.run_bind, hl]
theorem results8_1 {fn : Func} {t u : Tmp} {ty : TypeId} (h : fn.results = #[.cell t ty, .tmp u]) (tmps : Array Value) (P : Program) (w : World) (a : Addr) (ht : tmps.getD t undef = .pointer (some a)) (x : Value) (hl : (loadVar ty a).run P w = .ok x w) :
    (results fn tmps).run P w = .ok (.tuple #[x, tmps.getD u undef]) w := by
  simp only [Array.getD_eq_getD_getElem?] at ht
  simp [results, h, ht, asAddr, Sem.run_bind, hl]
theorem load8R {base r : Nat} {w : World} {cs : List Value} (h : Own base 39 1 w (some ⟨r, 0, none⟩) 2 2 cs) : (loadVar 39 ⟨r, 0, none⟩).run Try.prog w = .ok (.agg cs.toArray) w := by
  have hl : cs.length = 2 := by simpa using h.1
  exact run_loadVar_mid w r 0 39 cs _ (fun j v hj => by
    have hlt : j < 2 := by have := (List.getElem?_eq_some_iff.1 hj).1; omega
    have := World.ownsRow.cellAt h j (by omega)
    rw [Nat.zero_add, this, hj]) Try.underlying39 rfl (by rw [hl]; kernel_rfl)
theorem load8Q {base r : Nat} {w : World} {cs : List Value} (h : Own base 53 1 w (some ⟨r, 0, none⟩) 3 3 cs) : (loadVar 53 ⟨r, 0, none⟩).run Try.prog w = .ok (.agg cs.toArray) w := by
  have hl : cs.length = 3 := by simpa using h.1
  exact run_loadVar_mid w r 0 53 cs _ (fun j v hj => by
    have hlt : j < 3 := by have := (List.getElem?_eq_some_iff.1 hj).1; omega
    have := World.ownsRow.cellAt h j (by omega)
    rw [Nat.zero_add, this, hj]) Try.underlying53 rfl (by rw [hl]; kernel_rfl)
theorem stored28 {base r : Nat} {t : TypeId} {w : World} {cs : List Value} (h : Own base t 1 w (some ⟨r, 0, none⟩) 2 2 cs) (v0 v1 : Value) :
    Own base t 1 ((w.setCell ⟨r, 0, none⟩ v0).setCell ⟨r, 1, none⟩ v1) (some ⟨r, 0, none⟩) 2 2 [v0, v1] ∧ w.grownBy ((w.setCell ⟨r, 0, none⟩ v0).setCell ⟨r, 1, none⟩ v1) (some r) := by
  have hl : cs.length = 2 := by simpa using h.1
  obtain ⟨a, b, rfl⟩ : ∃ a b, cs = [a, b] := by
    match cs, hl with
    | [a, b], _ => exact ⟨a, b, rfl⟩
  have s1 := World.ownsRow.stored h 0 v0
  have s2 := World.ownsRow.stored s1.1 1 v1
  exact ⟨s2.1, s1.2.trans s2.2⟩
theorem stored38 {base r : Nat} {t : TypeId} {w : World} {cs : List Value} (h : Own base t 1 w (some ⟨r, 0, none⟩) 3 3 cs) (v0 v1 v2 : Value) :
    Own base t 1 (((w.setCell ⟨r, 0, none⟩ v0).setCell ⟨r, 1, none⟩ v1).setCell ⟨r, 2, none⟩ v2) (some ⟨r, 0, none⟩) 3 3 [v0, v1, v2] ∧ w.grownBy (((w.setCell ⟨r, 0, none⟩ v0).setCell ⟨r, 1, none⟩ v1).setCell ⟨r, 2, none⟩ v2) (some r) := by
  have hl : cs.length = 3 := by simpa using h.1
  obtain ⟨a, b, d, rfl⟩ : ∃ a b d, cs = [a, b, d] := by
    match cs, hl with
    | [a, b, d], _ => exact ⟨a, b, d, rfl⟩
  have s1 := World.ownsRow.stored h 0 v0
  have s2 := World.ownsRow.stored s1.1 1 v1
  have s3 := World.ownsRow.stored s2.1 2 v2
  exact ⟨s3.1, s1.2.trans (s2.2.trans s3.2)⟩
theorem wrote8 {W w w' : World} {r : Nat} (hb : Below W.heap.size W w) (hg : w.grownBy w' (some r)) (hr : W.heap.size ≤ r) : Below W.heap.size W w' :=
  hb.grown hg hb.size (fun k hk => by cases hk; exact hr)
/-- a row whose first cell is none of a block's cells stays when that block is stored -/
theorem sl_kept8 {w w' : World} {q size n c : Nat} {t : TypeId} {A : Option Addr} {cs vs : List Value} (h : w.heap[q]? = some (.cells cs.toArray t)) (hs : Sl w size A n c vs) (hv : ∀ v, vs[0]? = some v → v ∉ cs) (hg : w.grownBy w' (some q)) : Sl w' size A n c vs := by
  cases vs with
  | nil => exact ⟨fun j u hj => by simp at hj, hs.len, hs.le, hs.none⟩
  | cons v r =>
    obtain ⟨ad, h6, h7⟩ := hs.cells 0 v rfl
    have h8 := World.block_lt_of_cell? _ _ h7
    rw [add_block] at h8
    refine sl_same hs (fun a ha => hg.block _ (by rw [ha] at h6; cases h6; exact h8) (fun e => ?_))
    rcases a with ⟨bk, off, spot⟩
    rw [ha] at h6
    cases h6
    have e2 := Option.some.inj e
    simp only at e2
    subst e2
    simp [World.cell?, Addr.add, h] at h7
    exact hv v rfl (List.mem_of_getElem? h7.2)
set_option maxHeartbeats 400000 in
theorem r8right_any (s : Nm) (w : World) : Calls Try.prog 46 #[.string (bstr s)] w fun e w' => e = .returned (.bool (namedB s)) ∧ w = w' := by
  have hsz : (bstr s).size = s.length := rfl
  unfold namedB
  go_enter Try.func46, Try.ntmps46
  go_wp2_with fail
  all_goals
    go_ret
    exact ⟨ret_bool (by simp <;> omega), rfl⟩
set_option maxRecDepth 100000 in
set_option maxHeartbeats 4000000 in
theorem r8New_any (most : Int) (w : World) :
    Calls Try.prog 21 #[.int .i64 most] w fun x w' => x = .returned (.tuple (if 1 ≤ most ∧ most ≤ 65536 then #[.agg #[.int .i64 most, .slice none 0 0], .int .i64 0] else #[.agg #[.int .i64 0, .slice none 0 0], .int .i64 2])) ∧ Below w.heap.size w w' := by
  have hb1 := below_alloc1 w (.cells #[.int .i64 0, .slice none 0 0] 39)
  have orr := new_own w [.int .i64 0, .slice none 0 0] 39 2 rfl (by unfold maxLen; omega)
  obtain ⟨w1, hw1⟩ : ∃ w1, w1 = w.alloc (.cells #[.int .i64 0, .slice none 0 0] 39) := ⟨_, rfl⟩
  have hT1 : (w.alloc (.cells [Value.int .i64 0, .slice none 0 0].toArray 39)) = w1 := hw1.symm
  rw [hT1] at orr
  rw [← hw1] at hb1
  have eW : w.alloc (.cells #[.int .i64 0, .slice none 0 0] 39) = w1 := hw1.symm
  have OR := Lib.hid orr
  have HB := Lib.hid hb1
  have f0 := World.ownsRow.frozenAt OR.out 0
  have f1 := World.ownsRow.frozenAt OR.out 1
  have m0 := World.ownsRow.cellAt OR.out 0 (by omega)
  have m1 := World.ownsRow.cellAt OR.out 1 (by omega)
  simp only [List.getElem?_cons_zero, List.getElem?_cons_succ] at m0 m1
  clear hb1 orr hw1 hT1
  go_enter Try.func21, Try.ntmps21
  go_upto_region 1 with fail
  clear eW
  by_cases g : 1 ≤ most ∧ most ≤ 65536
  · have g1 : ¬ most < 1 := by omega
    have g2 : ¬ 65536 < most := by omega
    have Hst := Lib.hid (stored28 OR.out (.int .i64 most) (.slice none 0 0))
    have HG := Lib.hid g
    clear g
    go_wp2_with fail
    refine bodyPost_ret (results8_1 rfl _ _ _ ⟨w.heap.size, 0, none⟩ rfl _ (load8R Hst.out.1)) rfl ?_
    refine ⟨?_, wrote8 HB.out Hst.out.2 (Nat.le_refl _)⟩
    first | rfl | (rw [if_pos HG.out]; rfl)
  · have Hst := Lib.hid (stored28 OR.out (.int .i64 0) (.slice none 0 0))
    have HG := Lib.hid g
    by_cases g1 : most < 1
    · clear g
      go_wp2_with fail
      refine bodyPost_ret (results8_1 rfl _ _ _ ⟨w.heap.size, 0, none⟩ rfl _ (load8R Hst.out.1)) rfl ?_
      refine ⟨?_, wrote8 HB.out Hst.out.2 (Nat.le_refl _)⟩
      first | rfl | (rw [if_neg HG.out]; rfl)
    · have g2 : 65536 < most := by omega
      clear g
      go_wp2_with fail
      refine bodyPost_ret (results8_1 rfl _ _ _ ⟨w.heap.size, 0, none⟩ rfl _ (load8R Hst.out.1)) rfl ?_
      refine ⟨?_, wrote8 HB.out Hst.out.2 (Nat.le_refl _)⟩
      first | rfl | (rw [if_neg HG.out]; rfl)
theorem lk_first {P : List (Nm × Qu)} {nm : Nm} : ∀ {k : Nat} {e : Nm × Qu}, (∀ j x, j < k → P[j]? = some x → x.1 ≠ nm) → P[k]? = some e → e.1 = nm → lk P nm = some e.2 := by
  induction P with
  | nil => intro k e _ h; cases k <;> cases h
  | cons a r ih =>
    intro k e h1 h2 h3
    rw [lk_cons]
    cases k with
    | zero =>
      simp only [List.getElem?_cons_zero, Option.some.injEq] at h2
      subst h2
      rw [if_pos h3]
    | succ k =>
      rw [if_neg (h1 0 a (by omega) rfl)]
      exact ih (k := k) (fun j x hj hx => h1 (j + 1) x (by omega) (by simpa using hx)) (by simpa using h2) h3
theorem lk_nowhere {P : List (Nm × Qu)} {nm : Nm} (h : ∀ j x, j < P.length → P[j]? = some x → x.1 ≠ nm) : lk P nm = none := by
  rw [lk_none]
  intro hm
  obtain ⟨x, hx, he⟩ := List.mem_map.1 hm
  obtain ⟨j, hj⟩ := List.mem_iff_getElem?.1 hx
  exact h j x (List.getElem?_eq_some_iff.1 hj).1 hj he
def Of8P (G : Nat → Prop) (w : World) (P : List (Nm × Qu)) (M : Int) (nm : Nm) (x : Ending) (w' : World) : Prop :=
  ∃ B d, x = .returned (.tuple #[.agg #[.string (bstr nm), .int .i64 (getQ P M nm).most, .slice B (getQ P M nm).l.length d], .bool (lk P nm).isSome]) ∧ Sl w' 1 B (getQ P M nm).l.length d (intsL (getQ P M nm).l) ∧ RowG G w' B (intsL (getQ P M nm).l) ∧ Below w.heap.size w w'
theorem sl_past {wx w' : World} {N q size n c : Nat} {A : Option Addr} {vs : List Value} (h : Sl wx size A n c vs) (hl : vs ≠ [] → ∀ a, A = some a → a.block < N) (hN : N ≤ wx.heap.size) (hg : wx.grownBy w' (some q)) (hq : N ≤ q) : Sl w' size A n c vs :=
  sl_moved h (fun hne a ha => hg.block _ (by have := hl hne a ha; omega) (fun e => by have h1 := hl hne a ha; have h2 := Option.some.inj e; omega))
theorem getQ_none {P : List (Nm × Qu)} {M : Int} {nm : Nm} (h : lk P nm = none) : getQ P M nm = ⟨if namedB nm then M else 0, []⟩ := by unfold getQ; rw [h]; rfl
theorem getQ_some {P : List (Nm × Qu)} {M : Int} {nm : Nm} {q : Qu} (h : lk P nm = some q) : getQ P M nm = q := by unfold getQ; rw [h]; rfl
section
variable {w : World} {most : Int} {A : Option Addr} {n c : Nat} {es : List QE}
set_option maxRecDepth 100000 in
set_option maxHeartbeats 8000000 in
theorem r8Of_any {G : Nat → Prop} (hs : R8 G w A n c es) (hn : n ≤ 100000) (nm : Nm) :
    Calls Try.prog 28 #[.agg #[.int .i64 most, .slice A n c], .string (bstr nm)] w (Of8P G w (es.map QE.p) most nm) := by
  have hln := slQE_len hs.sl
  have hb1 := below_alloc1 w (.cells #[.int .i64 most, .slice A n c] 39)
  have k0 := box_cells8 w [.int .i64 most, .slice A n c] 39 0 _ rfl
  have k1 := box_cells8 w [.int .i64 most, .slice A n c] 39 1 _ rfl
  obtain ⟨w1, hw1⟩ : ∃ w1, w1 = w.alloc (.cells #[.int .i64 most, .slice A n c] 39) := ⟨_, rfl⟩
  have hT1 : (w.alloc (.cells [Value.int .i64 most, .slice A n c].toArray 39)) = w1 := hw1.symm
  rw [hT1] at k0 k1
  rw [← hw1] at hb1
  have hz1 : w1.heap.size = w.heap.size + 1 := by rw [hw1]; simp
  have hb2 := below_alloc1 w1 (.cells #[.string ⟨#[]⟩, .int .i64 0, .slice none 0 0] 53)
  have orr := new_own w1 [.string ⟨#[]⟩, .int .i64 0, .slice none 0 0] 53 3 rfl (by unfold maxLen; omega)
  obtain ⟨w2, hw2⟩ : ∃ w2, w2 = w1.alloc (.cells #[.string ⟨#[]⟩, .int .i64 0, .slice none 0 0] 53) := ⟨_, rfl⟩
  have hT2 : (w1.alloc (.cells [Value.string ⟨#[]⟩, .int .i64 0, .slice none 0 0].toArray 53)) = w2 := hw2.symm
  rw [hT2, hz1] at orr
  rw [← hw2] at hb2
  have eW : (w.alloc (.cells #[.int .i64 most, .slice A n c] 39)).alloc (.cells #[.string ⟨#[]⟩, .int .i64 0, .slice none 0 0] 53) = w2 := by rw [hw2, hw1]
  have K0 := Lib.hid (cell8 hb2 k0)
  have K1 := Lib.hid (cell8 hb2 k1)
  have OR := Lib.hid (Own.lower orr (show w.heap.size ≤ w.heap.size + 1 by omega))
  have HB := Lib.hid (hb1.trans (hb2.mono hb1.size))
  have H0 := Lib.hid hs
  have HS := Lib.hid (hs.below HB.out)
  clear hb1 hb2 hw1 hw2 hT1 hT2 hz1 orr hs k0 k1
  go_enter Try.func28, Try.ntmps28
  go_upto_region 1 with fail
  clear eW
  go_wp2_with fail
  go_loopw [6] (fun s6 wx => ∃ (k : Nat), k ≤ n ∧ s6 = .int .i64 (k : Int) ∧ Hid (∀ j x, j < k → (es.map QE.p)[j]? = some x → x.1 ≠ nm) ∧ Hid (Below w2.heap.size w2 wx)) (fun iv _ => n - (intOf iv).toNat)
  case atStart => exact ⟨0, by omega, rfl, Lib.hid (fun j x h => by omega), Lib.hid (Below.refl _ _)⟩
  case round =>
    obtain ⟨k, hk, rfl, HN, HW⟩ := hrel
    have d1 := cell8 HW.out K1.out
    by_cases g1 : (k : Int) < (n : Int)
    · obtain ⟨e, he⟩ := get_some es k (by omega)
      have hss := HS.out.sl.below HW.out
      obtain ⟨ad, rfl⟩ := slQE_addr hss he
      obtain ⟨y0, y1, y2⟩ := slQE_three hss he
      have hin : (0 : Int) ≤ (k : Int) ∧ (k : Int) < (n : Int) := by omega
      have HE := Lib.hid (show (es.map QE.p)[k]? = some (e.nm, e.q) by rw [List.getElem?_map, he]; rfl)
      have Hm := Lib.hid (List.mem_of_getElem? he)
      clear hss he
      by_cases hx : e.nm = nm
      · have HL := Lib.hid (lk_first HN.out HE.out hx)
        have hq : (e.nm == nm) = true := by simpa using hx
        have HX := Lib.hid hx
        have OR7 := Lib.hid (Own.below OR.out HW.out)
        have f0 := World.ownsRow.frozenAt OR7.out 0
        have f1 := World.ownsRow.frozenAt OR7.out 1
        have f2 := World.ownsRow.frozenAt OR7.out 2
        have m0 := World.ownsRow.cellAt OR7.out 0 (by omega)
        have m1 := World.ownsRow.cellAt OR7.out 1 (by omega)
        have m2 := World.ownsRow.cellAt OR7.out 2 (by omega)
        simp only [List.getElem?_cons_zero, List.getElem?_cons_succ] at m0 m1 m2
        have Hst := Lib.hid (stored38 OR7.out (.string (bstr e.nm)) (.int .i64 e.q.most) (.slice e.A e.q.l.length e.c))
        clear hx
        go_wp2_with fail
        refine bodyPost_ret (results8_1 rfl _ _ _ ⟨w.heap.size + 1, 0, none⟩ rfl _ (load8Q Hst.out.1)) rfl ?_
        unfold Of8P
        rw [getQ_some HL.out, HL.out]
        have hr0 := (H0.out.ok e Hm.out)
        have hb3 := wrote8 (HB.out.trans (HW.out.mono HB.out.size)) Hst.out.2 (by omega)
        exact ⟨e.A, e.c, by rw [HX.out]; rfl, sl_past ((hr0.1.below HB.out).below HW.out) (fun hne a ha => (hr0.2 hne a ha).1) (Nat.le_trans HB.out.size HW.out.size) Hst.out.2 (by omega), hr0.2.size hb3.size, hb3⟩
      · have hq : (e.nm == nm) = false := by simpa using hx
        have HX := Lib.hid hx
        clear hx
        go_wp2_with fail
        go_roundw
        case rel => exact ⟨k + 1, by omega, by go_num, Lib.hid (fun j x hj hjx => by
          by_cases h : j = k
          · subst h
            rw [HE.out] at hjx
            cases hjx
            exact HX.out
          · exact HN.out j x (by omega) hjx), HW⟩
        case measure => simp [intOf]; omega
    · obtain rfl : k = n := by omega
      have HL := Lib.hid (lk_nowhere (P := es.map QE.p) (nm := nm) (fun j x hj hx => HN.out j x (by rw [List.length_map] at hj; omega) hx))
      have OR7 := Lib.hid (Own.below OR.out HW.out)
      have d0 := cell8 HW.out K0.out
      have f0 := World.ownsRow.frozenAt OR7.out 0
      have f1 := World.ownsRow.frozenAt OR7.out 1
      have f2 := World.ownsRow.frozenAt OR7.out 2
      have m0 := World.ownsRow.cellAt OR7.out 0 (by omega)
      have m1 := World.ownsRow.cellAt OR7.out 1 (by omega)
      have m2 := World.ownsRow.cellAt OR7.out 2 (by omega)
      simp only [List.getElem?_cons_zero, List.getElem?_cons_succ] at m0 m1 m2
      have hc := r8right_any nm wr
      cases hnb : namedB nm with
      | true =>
        have HV := Lib.hid (show getQ (es.map QE.p) most nm = ⟨most, []⟩ by rw [getQ_none HL.out, hnb]; rfl)
        rw [hnb] at hc
        have Hst := Lib.hid (stored38 OR7.out (.string (bstr nm)) (.int .i64 most) (.slice none 0 0))
        clear hnb
        go_wp2_with fail
        refine hc.mono ?_; rintro x w5 ⟨rfl, rfl⟩
        clear hc
        go_wp2_with fail
        refine bodyPost_ret (results8_1 rfl _ _ _ ⟨w.heap.size + 1, 0, none⟩ rfl _ (load8Q Hst.out.1)) rfl ?_
        unfold Of8P
        rw [HV.out, HL.out]
        exact ⟨none, 0, rfl, Sl.nil _ _, fun h => absurd rfl h, wrote8 (HB.out.trans (HW.out.mono HB.out.size)) Hst.out.2 (by omega)⟩
      | false =>
        have HV := Lib.hid (show getQ (es.map QE.p) most nm = ⟨0, []⟩ by rw [getQ_none HL.out, hnb]; rfl)
        rw [hnb] at hc
        have Hst := Lib.hid (stored38 OR7.out (.string (bstr nm)) (.int .i64 0) (.slice none 0 0))
        clear hnb
        go_wp2_with fail
        refine hc.mono ?_; rintro x w5 ⟨rfl, rfl⟩
        clear hc
        go_wp2_with fail
        refine bodyPost_ret (results8_1 rfl _ _ _ ⟨w.heap.size + 1, 0, none⟩ rfl _ (load8Q Hst.out.1)) rfl ?_
        unfold Of8P
        rw [HV.out, HL.out]
        exact ⟨none, 0, rfl, Sl.nil _ _, fun h => absurd rfl h, wrote8 (HB.out.trans (HW.out.mono HB.out.size)) Hst.out.2 (by omega)⟩
end
end Go.Proofs.Ytcidifmikcnkcaa
