import Derived.Test.YtemegkapmgcffaaR2O
import Derived.Test.YtemegkapmgcffaaR2P
import Derived.Test.YtemegkapmgcffaaR2L
import Derived.Test.YtemegkapmgcffaaDlD
/- DiskTells: the walk. -/
namespace Go.Proofs.Ytemegkapmgcffaa
open Go.RowKit
set_option linter.unusedSimpArgs false
set_option linter.unusedVariables false

/-- the program's disk and the document's beside each other: B is the block of the document's -/
structure Twd (W w : World) (p B : Nat) (D : Dk) (F : Nat → Prop) (A : Option Addr) (n c : Nat) (es : List FE) : Prop where
  dk : DkIs w W.heap.size p D F
  bel : Below W.heap.size W w
  r2 : R2 (fun q => ¬ F q) w A n c es
  eq : es.map FE.f = D.fs
  box : Own W.heap.size 80 1 w (some ⟨B, 0, none⟩) 4 4 [.int .i64 D.room, .slice A n c, .int .i64 D.fuse, .bool D.dark]
  nB : ¬ F B
theorem R2.step {F F' : Nat → Prop} {w w' : World} {A : Option Addr} {n c : Nat} {es : List FE} (h : R2 (fun q => ¬ F q) w A n c es) (hc : Cg F F' w w') : R2 (fun q => ¬ F' q) w' A n c es := by
  have key : ∀ q, q < w.heap.size → ¬ F q → ¬ F' q := fun q hq hf hf' => by
    rcases hc.new q hf' with h1 | h1
    · exact hf h1
    · omega
  refine ⟨?_, fun hne a ha => ⟨Nat.lt_of_lt_of_le (h.lies hne a ha).1 hc.size, key _ (h.lies hne a ha).1 (h.lies hne a ha).2⟩, fun e he => ⟨?_, fun hne a ha => ⟨Nat.lt_of_lt_of_le ((h.ok e he).2 hne a ha).1 hc.size, key _ ((h.ok e he).2 hne a ha).1 ((h.ok e he).2 hne a ha).2⟩⟩⟩
  · by_cases h0 : es = []
    · subst h0
      exact ⟨fun j u hj => by simp [flatFE] at hj, h.sl.len, h.sl.le, h.sl.none⟩
    · exact sl_same h.sl (fun a ha => hc.block _ (h.lies h0 a ha).1 (h.lies h0 a ha).2)
  · by_cases h0 : bytesV e.f.b = []
    · have h1 := (h.ok e he).1
      rw [h0] at h1 ⊢
      exact ⟨fun j u hj => by simp at hj, h1.len, h1.le, h1.none⟩
    · exact sl_same (h.ok e he).1 (fun a ha => hc.block _ ((h.ok e he).2 h0 a ha).1 ((h.ok e he).2 h0 a ha).2)
theorem Twd.below {W w w' : World} {p B : Nat} {D : Dk} {F : Nat → Prop} {A : Option Addr} {n c : Nat} {es : List FE} (h : Twd W w p B D F A n c es) (hb : Below w.heap.size w w') : Twd W w' p B D F A n c es :=
  ⟨h.dk.below hb, h.bel.trans (hb.mono h.bel.size), h.r2.below hb, h.eq, Own.below h.box hb, h.nB⟩
theorem Twd.cells {W w : World} {p B : Nat} {D : Dk} {F : Nat → Prop} {A : Option Addr} {n c : Nat} {es : List FE} (h : Twd W w p B D F A n c es) :
    w.cell? ⟨B, 0, none⟩ = some (.int .i64 D.room) ∧ w.cell? ⟨B, 1, none⟩ = some (.slice A n c) ∧ w.cell? ⟨B, 2, none⟩ = some (.int .i64 D.fuse) ∧ w.cell? ⟨B, 3, none⟩ = some (.bool D.dark) := by
  have m0 := World.ownsRow.cellAt h.box 0 (by omega)
  have m1 := World.ownsRow.cellAt h.box 1 (by omega)
  have m2 := World.ownsRow.cellAt h.box 2 (by omega)
  have m3 := World.ownsRow.cellAt h.box 3 (by omega)
  simp only [List.getElem?_cons_zero, List.getElem?_cons_succ] at m0 m1 m2 m3
  exact ⟨m0, m1, m2, m3⟩
/-- the document's disk is stored into its block -/
theorem Twd.store {W w w' : World} {p B : Nat} {D D2 : Dk} {F : Nat → Prop} {A A2 : Option Addr} {n c n2 c2 : Nat} {es2 : List FE}
    (dk : DkIs w W.heap.size p D2 F) (bel : Below W.heap.size W w) (r2 : R2 (fun q => ¬ F q) w A2 n2 c2 es2) (eq : es2.map FE.f = D2.fs)
    (box : Own W.heap.size 80 1 w (some ⟨B, 0, none⟩) 4 4 [.int .i64 D.room, .slice A n c, .int .i64 D.fuse, .bool D.dark]) (nB : ¬ F B)
    (st : Own W.heap.size 80 1 w' (some ⟨B, 0, none⟩) 4 4 [.int .i64 D2.room, .slice A2 n2 c2, .int .i64 D2.fuse, .bool D2.dark]) (hg : w.grownBy w' (some B)) : Twd W w' p B D2 F A2 n2 c2 es2 :=
  ⟨dk.away (Cg.grown (F := fun q => q = B) hg rfl) (fun q hq h => nB (h ▸ hq)), bel.grown hg bel.size (fun q hq => by cases hq; exact (own_lt box _ rfl).1), R2.kept (held_of_own box) r2 hg, eq, st, nB⟩
theorem dk_mk {D : Dk} {es : List FE} (h : es.map FE.f = D.fs) : (⟨D.room, D.fuse, D.dark, es.map FE.f⟩ : Dk) = D := by rw [h]
set_option maxRecDepth 100000 in
set_option maxHeartbeats 16000000 in
theorem tells_any {W : World} {A : Option Addr} {n c : Nat} {ds : List Ded} {most : Int} (s : Sl W 7 A n c (flatD ds)) (ok : ∀ e, e ∈ ds → OkDed W e) (hn : n ≤ 9223372036854775807) :
    Calls Try.prog 13 #[.int .i64 most, .slice A n c] W fun x w' => x = .returned (.bool true) ∧ Below W.heap.size W w' := by
  have hln := slD_len s
  have S := Lib.hid s
  have OK := Lib.hid ok
  have Hln := Lib.hid hln
  clear s ok hln
  by_cases hm : 0 ≤ most ∧ most ≤ 16777216
  · have hc1 := New_ok (base := W.heap.size) most W hm (Nat.le_refl _)
    have hc2 := fun w => r2New_any most w
    simp only [if_pos hm] at hc2
    have HM := Lib.hid hm
    clear hm
    go_enter Try.func13, Try.ntmps13
    go_wp2_with fail
    refine hc1.mono ?_; rintro x w1 ⟨p, F, rfl, k1, k2, k3⟩
    clear hc1
    go_wp2_with fail
    refine (hc2 w1).mono ?_; rintro x w2 ⟨rfl, k4⟩
    clear hc2
    have hbx := below_alloc1 w2 (.cells #[.int .i64 most, .slice none 0 0, .int .i64 (-1), .bool false] 80)
    have obx := new_own w2 [.int .i64 most, .slice none 0 0, .int .i64 (-1), .bool false] 80 4 rfl (by unfold maxLen; omega)
    have hbel := (k3.trans (k4.mono k3.size)).trans (hbx.mono (Nat.le_trans k3.size k4.size))
    have HT := Lib.hid (show Twd W (w2.alloc (.cells #[.int .i64 most, .slice none 0 0, .int .i64 (-1), .bool false] 80)) p w2.heap.size (newD most) F none 0 0 [] from
      ⟨(k1.below k4).below hbx, hbel, ⟨⟨fun j u hj => by simp [flatFE] at hj, rfl, Nat.le_refl _, fun _ => ⟨rfl, rfl⟩⟩, fun h => absurd rfl h, fun e he => by cases he⟩, rfl, Own.lower obx (Nat.le_trans k3.size k4.size), fun h => by have := ((k1.below k4).bound _ h).2; omega⟩)
    clear hbx obx hbel k1 k2 k3 k4
    obtain ⟨B, hB⟩ : ∃ B, B = w2.heap.size := ⟨_, rfl⟩
    rw [← hB] at HT
    go_upto_region 3 with fail
    obtain ⟨w3, hw3⟩ : ∃ w3, w3 = w2.alloc (.cells #[.int .i64 most, .slice none 0 0, .int .i64 (-1), .bool false] 80) := ⟨_, rfl⟩
    rw [← hw3] at HT ⊢
    rw [← hB]
    clear hw3 hB
    go_wp2_with fail
    go_loopw [9] (fun s9 wx => ∃ (i : Nat) (D : Dk) (F : Nat → Prop) (A2 : Option Addr) (n2 c2 : Nat) (es2 : List FE), i ≤ n ∧ i ≤ 60 ∧ s9 = .int .i64 (i : Int) ∧ Hid (Lim (300 * i) D.fs) ∧ Hid (Twd W wx p B D F A2 n2 c2 es2)) (fun iv _ => 60 - (intOf iv).toNat)
    case atStart => exact ⟨0, _, F, none, 0, 0, [], by omega, by omega, rfl, Lib.hid (fun f hf => by cases hf), HT⟩
    case round =>
      obtain ⟨i, D, F, A2, n2, c2, es2, hi, hi60, rfl, HL, HTR⟩ := hrel
      by_cases hgo : (i : Int) < (n : Int) ∧ (i : Int) < 60
      · obtain ⟨hgo1, hgo2⟩ := hgo
        obtain ⟨d, hd⟩ := get_some ds i (by rw [Hln.out]; omega)
        have hs := S.out.below HTR.out.bel
        obtain ⟨ad, rfl⟩ := slD_addr hs hd
        obtain ⟨y0, y1, y2, y3, y4, y5, y6⟩ := slD_seven hs hd
        have hin : (0 : Int) ≤ (i : Int) ∧ (i : Int) < (n : Int) := by omega
        have Hd := Lib.hid (OK.out d (List.mem_of_getElem? hd))
        have HDI := Lib.hid hd
        clear hs hd
        go_wp2_with fail
        refine (large_any d Hd.out wr).mono ?_; rintro x w4 ⟨rfl, hb4⟩
        have HT4 := Lib.hid (HTR.out.below hb4)
        have Y0 := Lib.hid (cellB hb4 y0)
        have Y1 := Lib.hid (cellB hb4 y1)
        have Y2 := Lib.hid (cellB hb4 y2)
        have Y3 := Lib.hid (cellB hb4 y3)
        have Y4 := Lib.hid (cellB hb4 y4)
        have Y5 := Lib.hid (cellB hb4 y5)
        have Y6 := Lib.hid (cellB hb4 y6)
        clear y0 y1 y2 y3 y4 y5 y6 hb4 HTR
        cases hlg : largeB d with
        | true =>
          clear hlg
          go_wp2_with fail
          go_roundw
          case rel => exact ⟨i + 1, D, F, A2, n2, c2, es2, by omega, by omega, by go_num, Lib.hid (HL.out.mono (by omega)), HT4⟩
          case measure => simp [intOf]; omega
        | false =>
          have Hlg := Lib.hid hlg
          clear hlg
          obtain ⟨r, hr⟩ : ∃ r, r = doesD D d := ⟨_, rfl⟩
          have HR := Lib.hid hr
          clear hr
          have HGD := Lib.hid HT4.out.dk.good
          have HSH : Hid (∀ w', Below w4.heap.size w4 w' → Calls Try.prog 54 #[.agg #[.int .i64 D.room, .slice A2 n2 c2, .int .i64 D.fuse, .bool D.dark], .agg (dedC d).toArray] w' (R2P (fun q => ¬ F q) w' r)) := Lib.hid fun w' hb => by
            have h9 := HT4.out.below hb
            have := should_any (room := D.room) (fuse := D.fuse) (dark := D.dark) (G := fun q => ¬ F q) (w := w') (fun q hq hf => by have := (h9.dk.bound q hf).2; omega) h9.r2 (by rw [dk_mk h9.eq]; exact HGD.out) (by rw [h9.eq]; exact HL.out.mono (by omega)) d (Hd.out.below h9.bel) Hlg.out
            rw [dk_mk h9.eq, ← HR.out] at this
            exact this
          go_upto_region 9 with fail
          go_cut [10, 11] from 52 to 60 (fun s10 s11 wx => ∃ (B2 : Nat) (A3 : Option Addr) (n3 c3 : Nat) (es3 : List FE), s10 = .pointer (some ⟨B2, 0, none⟩) ∧ s11 = .int .i64 r.1 ∧ Hid (Own w4.heap.size 80 1 wx (some ⟨B2, 0, none⟩) 4 4 [.int .i64 r.2.room, .slice A3 n3 c3, .int .i64 r.2.fuse, .bool r.2.dark]) ∧ Hid (R2 (fun q => ¬ F q) wx A3 n3 c3 es3) ∧ Hid (es3.map FE.f = r.2.fs) ∧ Hid (Below w4.heap.size w4 wx))
          case first =>
            obtain ⟨k0, k1, k2, k3⟩ := HT4.out.cells
            have y0 := Y0.out
            have y1 := Y1.out
            have y2 := Y2.out
            have y3 := Y3.out
            have y4 := Y4.out
            have y5 := Y5.out
            have y6 := Y6.out
            have HC1 := Lib.hid (HSH.out w4.drew (Below.refl _ _).drew)
            have hba := below_alloc1 w4 (.cells #[.int .i64 0, .slice none 0 0, .int .i64 0, .bool false] 80)
            have oz := new_own w4 [.int .i64 0, .slice none 0 0, .int .i64 0, .bool false] 80 4 rfl (by unfold maxLen; omega)
            have HBA := Lib.hid (show Below w4.heap.size w4 (w4.alloc (.cells #[.int .i64 0, .slice none 0 0, .int .i64 0, .bool false] 80)).drew from hba.drew)
            have HC2 := Lib.hid (HSH.out _ HBA.out)
            have HOZ := Lib.hid (show Own w4.heap.size 80 1 (w4.alloc (.cells #[.int .i64 0, .slice none 0 0, .int .i64 0, .bool false] 80)).drew (some ⟨w4.heap.size, 0, none⟩) 4 4 [.int .i64 0, .slice none 0 0, .int .i64 0, .bool false] from Own.below oz (Below.refl _ _).drew)
            have ka0 := cellB hba k0
            have ka1 := cellB hba k1
            have ka2 := cellB hba k2
            have ka3 := cellB hba k3
            have ya0 := cellB hba y0
            have ya1 := cellB hba y1
            have ya2 := cellB hba y2
            have ya3 := cellB hba y3
            have ya4 := cellB hba y4
            have ya5 := cellB hba y5
            have ya6 := cellB hba y6
            clear hba oz
            go_region_with (first
              | (go_at_call 54; refine HC1.out.mono ?_; rintro x w5 ⟨A3, n3, c3, es3, rfl, q1, q2, q3⟩)
              | (go_at_call 54; refine HC2.out.mono ?_; rintro x w5 ⟨A3, n3, c3, es3, rfl, q1, q2, q3⟩; have oz5 := Own.below HOZ.out q3; have f0 := World.ownsRow.frozenAt oz5 0; have f1 := World.ownsRow.frozenAt oz5 1; have f2 := World.ownsRow.frozenAt oz5 2; have f3 := World.ownsRow.frozenAt oz5 3; have z0 := World.ownsRow.cellAt oz5 0 (by omega); have z1 := World.ownsRow.cellAt oz5 1 (by omega); have z2 := World.ownsRow.cellAt oz5 2 (by omega); have z3 := World.ownsRow.cellAt oz5 3 (by omega); simp only [List.getElem?_cons_zero, List.getElem?_cons_succ] at z0 z1 z2 z3))
            all_goals (go_wp2_with fail)
            all_goals (go_meet)
            all_goals (first
              | exact ⟨w4.heap.size, A3, n3, c3, es3, rfl, rfl, Lib.hid (stored4R oz5 (.int .i64 r.2.room) (.slice A3 n3 c3) (.int .i64 r.2.fuse) (.bool r.2.dark)).1, Lib.hid (R2.kept (held_of_own oz5) q1 (stored4R oz5 (.int .i64 r.2.room) (.slice A3 n3 c3) (.int .i64 r.2.fuse) (.bool r.2.dark)).2), Lib.hid q2, Lib.hid (wrote2 (HBA.out.trans (q3.mono HBA.out.size)) (stored4R oz5 (.int .i64 r.2.room) (.slice A3 n3 c3) (.int .i64 r.2.fuse) (.bool r.2.dark)).2 (Nat.le_refl _))⟩
              | exact ⟨w5.heap.size, A3, n3, c3, es3, rfl, rfl, Lib.hid (Own.lower (new_own w5 [.int .i64 r.2.room, .slice A3 n3 c3, .int .i64 r.2.fuse, .bool r.2.dark] 80 4 rfl (by unfold maxLen; omega)) q3.size), Lib.hid (q1.below (below_alloc1 _ _)), Lib.hid q2, Lib.hid (((Below.refl _ _).drew.trans q3).trans ((below_alloc1 _ _).mono q3.size))⟩)
          case rest =>
            obtain ⟨B2, A3, n3, c3, es3, rfl, rfl, HO, HR3, HE3, HX⟩ := hcut
            have y0 := cellB HX.out Y0.out
            have y1 := cellB HX.out Y1.out
            have y2 := cellB HX.out Y2.out
            have y3 := cellB HX.out Y3.out
            have y4 := cellB HX.out Y4.out
            have y5 := cellB HX.out Y5.out
            have y6 := cellB HX.out Y6.out
            have HT5 := Lib.hid (HT4.out.below HX.out)
            have hcd := does_any HT5.out.dk d Hd.out (Hd.out.below HT5.out.bel) (Nat.le_refl _) Hlg.out
            rw [← HR.out] at hcd
            go_wp2_with fail
            refine hcd.mono ?_; rintro x w6 ⟨rfl, F', k5, k6⟩
            clear hcd
            have hF2 : ∀ q, w4.heap.size ≤ q → ¬ F q := fun q hq hf => by have := (HT4.out.dk.bound q hf).2; omega
            have hnF : ¬ F' B := fun hf => by
              rcases k6.new B hf with h1 | h1
              · exact HT5.out.nB h1
              · have h8 : B < wc.heap.size := (own_lt HT5.out.box _ rfl).2
                omega
            have hO6 := own_same HO.out (fun a ha => k6.block _ (own_lt HO.out a ha).2 (hF2 _ (own_lt HO.out a ha).1))
            have hB6 := own_same HT5.out.box (fun a ha => k6.block _ (own_lt HT5.out.box a ha).2 (by cases ha; exact HT5.out.nB))
            have hR6 := HR3.out.step k6
            have hbel6 : Below W.heap.size W w6 := HT5.out.bel.trans (k6.bel (fun q hq => (HT5.out.dk.bound q hq).1) HT5.out.bel.size)
            have st := stored4R hB6 (.int .i64 r.2.room) (.slice A3 n3 c3) (.int .i64 r.2.fuse) (.bool r.2.dark)
            have HTN := Lib.hid (Twd.store k5 hbel6 hR6 HE3.out hB6 hnF st.1 st.2)
            have f0 := World.ownsRow.frozenAt hB6 0
            have f1 := World.ownsRow.frozenAt hB6 1
            have f2 := World.ownsRow.frozenAt hB6 2
            have f3 := World.ownsRow.frozenAt hB6 3
            have z0 := World.ownsRow.cellAt hB6 0 (by omega)
            have z1 := World.ownsRow.cellAt hB6 1 (by omega)
            have z2 := World.ownsRow.cellAt hB6 2 (by omega)
            have z3 := World.ownsRow.cellAt hB6 3 (by omega)
            have m0 := World.ownsRow.cellAt hO6 0 (by omega)
            have m1 := World.ownsRow.cellAt hO6 1 (by omega)
            have m2 := World.ownsRow.cellAt hO6 2 (by omega)
            have m3 := World.ownsRow.cellAt hO6 3 (by omega)
            simp only [List.getElem?_cons_zero, List.getElem?_cons_succ] at m0 m1 m2 m3 z0 z1 z2 z3
            clear y0 y1 y2 y3 y4 y5 y6 hF2 hnF hO6 hB6 hR6 hbel6 st k5 k6 HT5 HO HR3 HX HT4
            go_upto_region 12 with fail
            obtain ⟨w7, hw7⟩ : ∃ w7, w7 = (((w6.setCell ⟨B, 0, none⟩ (.int .i64 r.2.room)).setCell ⟨B, 1, none⟩ (.slice A3 n3 c3)).setCell ⟨B, 2, none⟩ (.int .i64 r.2.fuse)).setCell ⟨B, 3, none⟩ (.bool r.2.dark) := ⟨_, rfl⟩
            rw [← hw7] at HTN ⊢
            clear hw7 f0 f1 f2 f3 z0 z1 z2 z3 m0 m1 m2 m3
            have TRR := HTN
            obtain ⟨D2, hD2⟩ : ∃ D2, D2 = r.2 := ⟨_, rfl⟩
            have HL2 := Lib.hid (show Lim (300 * (i + 1)) D2.fs by
              rw [hD2, HR.out]
              exact (lim_does HGD.out HL.out d (by have := small_of Hlg.out; omega)).mono (by omega))
            rw [← hD2] at TRR
            clear hD2 HTN HR HSH HE3
            have hs7 := S.out.below TRR.out.bel
            have hnl := slFE_len TRR.out.r2.sl
            have hn3 : n3 ≤ 200 := by have h1 := TRR.out.dk.good.few; rw [← TRR.out.eq, List.length_map] at h1; omega
            obtain ⟨X0, X1, X2, X3⟩ := TRR.out.cells
            have X0 := Lib.hid X0
            have X1 := Lib.hid X1
            have X2 := Lib.hid X2
            have X3 := Lib.hid X3
            have HSD : Hid (∀ w', Below w7.heap.size w7 w' → Calls Try.prog 55 #[.pointer (some ⟨p, 0, none⟩), .agg #[.int .i64 D2.room, .slice A3 n3 c3, .int .i64 D2.fuse, .bool D2.dark]] w' fun x w'' => x = .returned (.bool true) ∧ Below w'.heap.size w' w'') := Lib.hid fun w' hb => by
              have h9 := TRR.out.below hb
              exact sameDisk_any h9.dk h9.r2.sl (fun e he => (h9.r2.ok e he).1) h9.eq
            obtain ⟨z, hz⟩ : ∃ z, (lookF D2.fs d.a).b.length = z := ⟨_, rfl⟩
            have HZ := Lib.hid hz
            obtain ⟨_, yy1, _, _, _, _, _⟩ := slD_seven hs7 HDI.out
            have Y1 := Lib.hid yy1
            clear yy1
            clear hz hs7
            --@region 13 12 dt12.spec
            refine wp_region_run (by kernel_rfl) (by kernel_rfl) ?_
            apply RunL.pure
            · intro vs w hb hd; clear hd; simp only [List.take, putL, Act.put, List.setIfInBounds_toArray, List.set_cons_zero, List.set_cons_succ]; unfold StepOK; go_simp; exact ⟨Below.refl _ _, isV_mk _ _⟩
            apply RunL.pure
            · intro vs w hb hd; clear hd; simp only [List.take, putL, Act.put, List.setIfInBounds_toArray, List.set_cons_zero, List.set_cons_succ]; unfold StepOK; go_simp; exact ⟨Below.refl _ _, isV_mk _ _⟩
            apply RunL.pure
            · intro vs w hb hd; have d0 : isV _ (vs 0) w := hd 0 (by decide) (by kernel_rfl); unfold isV at d0; have d1 : isV _ (vs 1) w := hd 1 (by decide) (by kernel_rfl); unfold isV at d1; clear hd; simp only [List.take, putL, Act.put, List.setIfInBounds_toArray, List.set_cons_zero, List.set_cons_succ]; unfold StepOK; go_simp; exact ⟨Below.refl _ _, isV_mk _ _⟩
            apply RunL.pure
            · intro vs w hb hd; have d2 : isV _ (vs 2) w := hd 2 (by decide) (by kernel_rfl); unfold isV at d2; clear hd; simp only [List.take, putL, Act.put, List.setIfInBounds_toArray, List.set_cons_zero, List.set_cons_succ]; unfold StepOK; go_simp; exact ⟨Below.refl _ _, isV_mk _ _⟩
            apply RunL.pure
            · intro vs w hb hd; have d3 : isV _ (vs 3) w := hd 3 (by decide) (by kernel_rfl); unfold isV at d3; clear hd; simp only [List.take, putL, Act.put, List.setIfInBounds_toArray, List.set_cons_zero, List.set_cons_succ]; unfold StepOK; go_simp; exact ⟨Below.refl _ _, isV_mk _ _⟩
            apply RunL.pure
            · intro vs w hb hd; have d3 : isV _ (vs 3) w := hd 3 (by decide) (by kernel_rfl); unfold isV at d3; clear hd; have hx0 := cellB hb X0.out; have hx1 := cellB hb X1.out; have hx2 := cellB hb X2.out; have hx3 := cellB hb X3.out; simp only [List.take, putL, Act.put, List.setIfInBounds_toArray, List.set_cons_zero, List.set_cons_succ]; unfold StepOK; go_simp; exact ⟨Below.refl _ _, isV_mk _ _⟩
            refine RunL.such (isV (.bool true)) (isV_stable _) ?_ ?_
            · intro vs w hb hd; have d3 : isV _ (vs 3) w := hd 3 (by decide) (by kernel_rfl); unfold isV at d3; have d4 : isV _ (vs 4) w := hd 4 (by decide) (by kernel_rfl); unfold isV at d4; have d5 : isV _ (vs 5) w := hd 5 (by decide) (by kernel_rfl); unfold isV at d5; clear hd; simp only [List.take, putL, Act.put, List.setIfInBounds_toArray, List.set_cons_zero, List.set_cons_succ]; unfold StepOK; go_simp; exact ⟨Below.refl _ _, such_of_bool (HSD.out w hb)⟩
            apply RunL.pure
            · intro vs w hb hd; have d3 : isV _ (vs 3) w := hd 3 (by decide) (by kernel_rfl); unfold isV at d3; have d6 := hd 6 (by decide) (by kernel_rfl); simp only [TR, Nat.reduceAdd, Nat.reduceSub, List.getD_cons_zero, List.getD_cons_succ] at d6; clear hd; unfold isV at d6; simp only [List.take, putL, Act.put, List.setIfInBounds_toArray, List.set_cons_zero, List.set_cons_succ]; unfold StepOK; go_simp; exact ⟨Below.refl _ _, isV_mk _ _⟩
            apply RunL.pure
            · intro vs w hb hd; have d3 : isV _ (vs 3) w := hd 3 (by decide) (by kernel_rfl); unfold isV at d3; have d7 : isV _ (vs 7) w := hd 7 (by decide) (by kernel_rfl); unfold isV at d7; clear hd; simp only [List.take, putL, Act.put, List.setIfInBounds_toArray, List.set_cons_zero, List.set_cons_succ]; unfold StepOK; go_simp; exact ⟨Below.refl _ _, isV_mk _ _⟩
            apply RunL.pure
            · intro vs w hb hd; have d6 := hd 6 (by decide) (by kernel_rfl); simp only [TR, Nat.reduceAdd, Nat.reduceSub, List.getD_cons_zero, List.getD_cons_succ] at d6; have d8 : isV _ (vs 8) w := hd 8 (by decide) (by kernel_rfl); unfold isV at d8; clear hd; simp only [List.take, putL, Act.put, List.setIfInBounds_toArray, List.set_cons_zero, List.set_cons_succ]; unfold StepOK; go_simp; exact ⟨Below.refl _ _, isV_mk _ _⟩
            apply RunL.pure
            · intro vs w hb hd; have d9 : isV _ (vs 9) w := hd 9 (by decide) (by kernel_rfl); unfold isV at d9; clear hd; simp only [List.take, putL, Act.put, List.setIfInBounds_toArray, List.set_cons_zero, List.set_cons_succ]; unfold StepOK; go_simp; exact ⟨Below.refl _ _, isV_mk _ _⟩
            apply RunL.pure
            · intro vs w hb hd; have d9 : isV _ (vs 9) w := hd 9 (by decide) (by kernel_rfl); unfold isV at d9; clear hd; simp only [List.take, putL, Act.put, List.setIfInBounds_toArray, List.set_cons_zero, List.set_cons_succ]; unfold StepOK; go_simp; exact ⟨Below.refl _ _, isV_mk _ _⟩
            apply RunL.pure
            · intro vs w hb hd; have d9 : isV _ (vs 9) w := hd 9 (by decide) (by kernel_rfl); unfold isV at d9; clear hd; simp only [List.take, putL, Act.put, List.setIfInBounds_toArray, List.set_cons_zero, List.set_cons_succ]; unfold StepOK; go_simp; exact ⟨Below.refl _ _, isV_mk _ _⟩
            apply RunL.pure
            · intro vs w hb hd; have d9 : isV _ (vs 9) w := hd 9 (by decide) (by kernel_rfl); unfold isV at d9; have d11 : isV _ (vs 11) w := hd 11 (by decide) (by kernel_rfl); unfold isV at d11; have d12 : isV _ (vs 12) w := hd 12 (by decide) (by kernel_rfl); unfold isV at d12; clear hd; simp only [List.take, putL, Act.put, List.setIfInBounds_toArray, List.set_cons_zero, List.set_cons_succ]; unfold StepOK; go_simp; exact ⟨Below.refl _ _, isV_mk _ _⟩
            apply RunL.pure
            · intro vs w hb hd; have d9 : isV _ (vs 9) w := hd 9 (by decide) (by kernel_rfl); unfold isV at d9; have d13 : isV _ (vs 13) w := hd 13 (by decide) (by kernel_rfl); unfold isV at d13; clear hd; simp only [List.take, putL, Act.put, List.setIfInBounds_toArray, List.set_cons_zero, List.set_cons_succ]; unfold StepOK; go_simp; exact ⟨Below.refl _ _, isV_mk _ _⟩
            apply RunL.pure
            · intro vs w hb hd; have d9 : isV _ (vs 9) w := hd 9 (by decide) (by kernel_rfl); unfold isV at d9; have d14 : isV _ (vs 14) w := hd 14 (by decide) (by kernel_rfl); unfold isV at d14; clear hd; have hx := cellB hb Y1.out; simp only [List.take, putL, Act.put, List.setIfInBounds_toArray, List.set_cons_zero, List.set_cons_succ]; unfold StepOK; go_simp; exact ⟨Below.refl _ _, isV_mk _ _⟩
            refine RunL.such (isV (.int .i64 (z : Int))) (isV_stable _) ?_ ?_
            · intro vs w hb hd; have d9 : isV _ (vs 9) w := hd 9 (by decide) (by kernel_rfl); unfold isV at d9; have d10 : isV _ (vs 10) w := hd 10 (by decide) (by kernel_rfl); unfold isV at d10; have d15 : isV _ (vs 15) w := hd 15 (by decide) (by kernel_rfl); unfold isV at d15; clear hd; simp only [List.take, putL, Act.put, List.setIfInBounds_toArray, List.set_cons_zero, List.set_cons_succ]; unfold StepOK; go_simp; exact ⟨Below.refl _ _, such_of_bool ((Size_any (TRR.out.dk.below hb) d.a).mono (fun e w' ⟨h1, h2⟩ => ⟨by rw [h1, HZ.out], h2⟩))⟩
            apply RunL.pure
            · intro vs w hb hd; have d9 : isV _ (vs 9) w := hd 9 (by decide) (by kernel_rfl); unfold isV at d9; clear hd; have hx0 := cellB hb X0.out; have hx1 := cellB hb X1.out; have hx2 := cellB hb X2.out; have hx3 := cellB hb X3.out; simp only [List.take, putL, Act.put, List.setIfInBounds_toArray, List.set_cons_zero, List.set_cons_succ]; unfold StepOK; go_simp; exact ⟨Below.refl _ _, isV_mk _ _⟩
            apply RunL.pure
            · intro vs w hb hd; have d9 : isV _ (vs 9) w := hd 9 (by decide) (by kernel_rfl); unfold isV at d9; clear hd; simp only [List.take, putL, Act.put, List.setIfInBounds_toArray, List.set_cons_zero, List.set_cons_succ]; unfold StepOK; go_simp; exact ⟨Below.refl _ _, isV_mk _ _⟩
            apply RunL.pure
            · intro vs w hb hd; have d9 : isV _ (vs 9) w := hd 9 (by decide) (by kernel_rfl); unfold isV at d9; clear hd; simp only [List.take, putL, Act.put, List.setIfInBounds_toArray, List.set_cons_zero, List.set_cons_succ]; unfold StepOK; go_simp; exact ⟨Below.refl _ _, isV_mk _ _⟩
            apply RunL.pure
            · intro vs w hb hd; have d9 : isV _ (vs 9) w := hd 9 (by decide) (by kernel_rfl); unfold isV at d9; have d18 : isV _ (vs 18) w := hd 18 (by decide) (by kernel_rfl); unfold isV at d18; have d19 : isV _ (vs 19) w := hd 19 (by decide) (by kernel_rfl); unfold isV at d19; clear hd; simp only [List.take, putL, Act.put, List.setIfInBounds_toArray, List.set_cons_zero, List.set_cons_succ]; unfold StepOK; go_simp; exact ⟨Below.refl _ _, isV_mk _ _⟩
            apply RunL.pure
            · intro vs w hb hd; have d9 : isV _ (vs 9) w := hd 9 (by decide) (by kernel_rfl); unfold isV at d9; have d20 : isV _ (vs 20) w := hd 20 (by decide) (by kernel_rfl); unfold isV at d20; clear hd; simp only [List.take, putL, Act.put, List.setIfInBounds_toArray, List.set_cons_zero, List.set_cons_succ]; unfold StepOK; go_simp; exact ⟨Below.refl _ _, isV_mk _ _⟩
            apply RunL.pure
            · intro vs w hb hd; have d9 : isV _ (vs 9) w := hd 9 (by decide) (by kernel_rfl); unfold isV at d9; have d21 : isV _ (vs 21) w := hd 21 (by decide) (by kernel_rfl); unfold isV at d21; clear hd; have hx := cellB hb Y1.out; simp only [List.take, putL, Act.put, List.setIfInBounds_toArray, List.set_cons_zero, List.set_cons_succ]; unfold StepOK; go_simp; exact ⟨Below.refl _ _, isV_mk _ _⟩
            refine RunL.such (isV (.int .i64 (z : Int))) (isV_stable _) ?_ ?_
            · intro vs w hb hd; have d9 : isV _ (vs 9) w := hd 9 (by decide) (by kernel_rfl); unfold isV at d9; have d16 := hd 16 (by decide) (by kernel_rfl); simp only [TR, Nat.reduceAdd, Nat.reduceSub, List.getD_cons_zero, List.getD_cons_succ] at d16; have d17 : isV _ (vs 17) w := hd 17 (by decide) (by kernel_rfl); unfold isV at d17; have d22 : isV _ (vs 22) w := hd 22 (by decide) (by kernel_rfl); unfold isV at d22; clear hd; simp only [List.take, putL, Act.put, List.setIfInBounds_toArray, List.set_cons_zero, List.set_cons_succ]; unfold StepOK; go_simp; exact ⟨Below.refl _ _, such_of_bool ((r2sized_any (room := D2.room) (fuse := D2.fuse) (dark := D2.dark) (TRR.out.r2.sl.below hb) (by rw [TRR.out.eq]; exact TRR.out.dk.good.srt) (by omega) d.a).mono (fun e w' ⟨h1, h2⟩ => ⟨by rw [h1, TRR.out.eq, HZ.out], h2⟩))⟩
            apply RunL.pure
            · intro vs w hb hd; have d9 : isV _ (vs 9) w := hd 9 (by decide) (by kernel_rfl); unfold isV at d9; have d16 := hd 16 (by decide) (by kernel_rfl); simp only [TR, Nat.reduceAdd, Nat.reduceSub, List.getD_cons_zero, List.getD_cons_succ] at d16; have d23 := hd 23 (by decide) (by kernel_rfl); simp only [TR, Nat.reduceAdd, Nat.reduceSub, List.getD_cons_zero, List.getD_cons_succ] at d23; clear hd; unfold isV at d16; unfold isV at d23; simp only [List.take, putL, Act.put, List.setIfInBounds_toArray, List.set_cons_zero, List.set_cons_succ]; unfold StepOK; go_simp; exact ⟨Below.refl _ _, isV_mk _ _⟩
            apply RunL.pure
            · intro vs w hb hd; have d9 : isV _ (vs 9) w := hd 9 (by decide) (by kernel_rfl); unfold isV at d9; have d24 : isV _ (vs 24) w := hd 24 (by decide) (by kernel_rfl); unfold isV at d24; clear hd; simp only [List.take, putL, Act.put, List.setIfInBounds_toArray, List.set_cons_zero, List.set_cons_succ]; unfold StepOK; go_simp; exact ⟨Below.refl _ _, isV_mk _ _⟩
            intro vs w1 hb hd
            have e0 : isV _ (vs 0) w1 := hd 0 (by decide)
            have e1 : isV _ (vs 1) w1 := hd 1 (by decide)
            have e2 : isV _ (vs 2) w1 := hd 2 (by decide)
            have e3 : isV _ (vs 3) w1 := hd 3 (by decide)
            have e4 : isV _ (vs 4) w1 := hd 4 (by decide)
            have e5 : isV _ (vs 5) w1 := hd 5 (by decide)
            have e6 := hd 6 (by decide); simp only [TR, Nat.reduceAdd, Nat.reduceSub, List.getD_cons_zero, List.getD_cons_succ] at e6
            have e7 : isV _ (vs 7) w1 := hd 7 (by decide)
            have e8 : isV _ (vs 8) w1 := hd 8 (by decide)
            have e9 : isV _ (vs 9) w1 := hd 9 (by decide)
            have e10 : isV _ (vs 10) w1 := hd 10 (by decide)
            have e11 : isV _ (vs 11) w1 := hd 11 (by decide)
            have e12 : isV _ (vs 12) w1 := hd 12 (by decide)
            have e13 : isV _ (vs 13) w1 := hd 13 (by decide)
            have e14 : isV _ (vs 14) w1 := hd 14 (by decide)
            have e15 : isV _ (vs 15) w1 := hd 15 (by decide)
            have e16 := hd 16 (by decide); simp only [TR, Nat.reduceAdd, Nat.reduceSub, List.getD_cons_zero, List.getD_cons_succ] at e16
            have e17 : isV _ (vs 17) w1 := hd 17 (by decide)
            have e18 : isV _ (vs 18) w1 := hd 18 (by decide)
            have e19 : isV _ (vs 19) w1 := hd 19 (by decide)
            have e20 : isV _ (vs 20) w1 := hd 20 (by decide)
            have e21 : isV _ (vs 21) w1 := hd 21 (by decide)
            have e22 : isV _ (vs 22) w1 := hd 22 (by decide)
            have e23 := hd 23 (by decide); simp only [TR, Nat.reduceAdd, Nat.reduceSub, List.getD_cons_zero, List.getD_cons_succ] at e23
            have e24 : isV _ (vs 24) w1 := hd 24 (by decide)
            have e25 : isV _ (vs 25) w1 := hd 25 (by decide)
            clear hd
            unfold isV at e0 e1 e2 e3 e4 e5 e7 e8 e9 e10 e11 e12 e13 e14 e15 e17 e18 e19 e20 e21 e22 e24 e25
            simp only [putL, Act.put, List.setIfInBounds_toArray, List.set_cons_zero, List.set_cons_succ, e0, e1, e2, e3, e4, e5, e7, e8, e9, e10, e11, e12, e13, e14, e15, e17, e18, e19, e20, e21, e22, e24, e25]
            clear e0 e1 e2 e3 e4 e5 e7 e8 e9 e10 e11 e12 e13 e14 e15 e17 e18 e19 e20 e21 e22 e24 e25
            --@end
            have HTE := Lib.hid (TRR.out.below hb)
            clear hb TRR HSD X0 X1 X2 X3
            go_wp2_with fail
            go_roundw
            case rel => exact ⟨i + 1, D2, F', A3, n3, c3, es3, by omega, by omega, by go_num, HL2, HTE⟩
            case measure => simp [intOf]; omega
      · have HTf := HTR
        by_cases h1 : (i : Int) < (n : Int)
        · have h2 : ¬ (i : Int) < 60 := fun h => hgo ⟨h1, h⟩
          clear hgo
          go_wp2_with fail
          refine (awake2_any _).mono ?_; rintro x wl ⟨rfl, hbl⟩
          go_wp2_with fail
          go_ret
          exact ⟨rfl, HTf.out.bel.trans (hbl.mono HTf.out.bel.size)⟩
        · clear hgo
          go_wp2_with fail
          refine (awake2_any _).mono ?_; rintro x wl ⟨rfl, hbl⟩
          go_wp2_with fail
          go_ret
          exact ⟨rfl, HTf.out.bel.trans (hbl.mono HTf.out.bel.size)⟩
  · have hc1 := New_bad most W (by omega)
    have hc2 := fun w => r2New_any most w
    simp only [if_neg hm] at hc2
    clear hm
    go_enter Try.func13, Try.ntmps13
    go_wp2_with fail
    refine hc1.mono ?_; rintro x w1 ⟨rfl, k3⟩
    clear hc1
    go_wp2_with fail
    refine (hc2 w1).mono ?_; rintro x w2 ⟨rfl, k4⟩
    clear hc2
    have hbx := below_alloc1 w2 (.cells #[.int .i64 0, .slice none 0 0, .int .i64 0, .bool false] 80)
    have HBL := Lib.hid ((k3.trans (k4.mono k3.size)).trans (hbx.mono (Nat.le_trans k3.size k4.size)))
    clear hbx k3 k4
    go_upto_region 3 with fail
    obtain ⟨w3, hw3⟩ : ∃ w3, w3 = w2.alloc (.cells #[.int .i64 0, .slice none 0 0, .int .i64 0, .bool false] 80) := ⟨_, rfl⟩
    rw [← hw3] at HBL ⊢
    clear hw3
    go_wp2_with fail
    go_loopw [9] (fun s9 wx => s9 = .int .i64 0 ∧ wx = w3) (fun iv _ => 0)
    case atStart => exact ⟨rfl, rfl⟩
    case round =>
      obtain ⟨rfl, rfl⟩ := hrel
      by_cases h1 : (0 : Int) < (n : Int)
      · go_wp2_with fail
        refine (awake2_any _).mono ?_; rintro x wl ⟨rfl, hbl⟩
        go_wp2_with fail
        go_ret
        exact ⟨rfl, HBL.out.trans (hbl.mono HBL.out.size)⟩
      · go_wp2_with fail
        refine (awake2_any _).mono ?_; rintro x wl ⟨rfl, hbl⟩
        go_wp2_with fail
        go_ret
        exact ⟨rfl, HBL.out.trans (hbl.mono HBL.out.size)⟩
end Go.Proofs.Ytemegkapmgcffaa
