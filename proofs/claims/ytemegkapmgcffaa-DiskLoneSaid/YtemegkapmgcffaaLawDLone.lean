import Derived.Test.YtemegkapmgcffaaPureLone
/- DiskLone: the walk. -/
namespace Go.Proofs.Ytemegkapmgcffaa
open Go.RowKit
set_option linter.unusedSimpArgs false
set_option linter.unusedVariables false

theorem crash2_lit2 {W w : World} {pa pb : Nat} {Da Db : Dk} {vs us : Array Value} {n m b : Nat} {ks ts : List Int} (h : Dsk2 W w pa Da pb Db) (hv : vs = (ks.map fun x => .int .i64 x).toArray) (hu : us = (ts.map fun x => .int .i64 x).toArray) (hn : ks.length = n) (hm : ts.length = m) (hb : b = w.heap.size + 1) (hk : ∀ x, x ∈ ks → x ≤ 9223372036854775807) (hk2 : ∀ x, x ∈ ts → x ≤ 9223372036854775807) (hn1 : ks.length ≤ 1000000 := by simp) (hm1 : ts.length ≤ 1000000 := by simp) :
    Calls Try.prog 37 #[.pointer (some ⟨pa, 0, none⟩), .slice (some ⟨w.heap.size, 0, none⟩) n n, .slice (some ⟨b, 0, none⟩) m m] ((w.alloc (.cells vs 3)).alloc (.cells us 3)) fun x w' => x = .returned (.tuple #[]) ∧ Dsk2 W w' pa (crashD Da ks ts) pb Db := by
  subst hv hu hn hm
  have hs : (w.alloc (.cells (ks.map fun x => Value.int .i64 x).toArray 3)).heap.size = w.heap.size + 1 := by simp
  have h2 := sl_litI (w.alloc (.cells (ks.map fun x => Value.int .i64 x).toArray 3)) ts 3
  rw [hs, ← hb] at h2
  exact crash_dsk2 h ((below_alloc1 _ _).alloc (by simp) _) ((sl_litI w ks _).below (below_alloc1 _ _)) h2 (fun _ => Apt.new _ _ _) (fun _ a ha => by cases ha; exact .inr (by simp only; omega)) (by omega) (by omega) hk hk2
def withA (d : Ded) (nm : Nm) : Ded := { d with a := nm }
theorem OkDed.withA {w : World} {d : Ded} (h : OkDed w d) {nm : Nm} (hl : nm.length ≤ 60) : OkDed w (withA d nm) := ⟨h.op, by unfold Proofs.Ytemegkapmgcffaa.withA; simp only; omega, h.t2, h.b, h.n, h.ks, h.ts⟩
theorem large_withA {d : Ded} (h : largeB d = false) {nm : Nm} (hl : nm.length ≤ 60) : largeB (withA d nm) = false := by
  obtain ⟨h1, h2, h3, h4, h5⟩ := small_of h
  unfold largeB withA
  simp only [Bool.or_eq_false_iff, decide_eq_false_iff_not]
  omega
set_option maxRecDepth 100000 in
set_option maxHeartbeats 8000000 in
theorem lone_any {W : World} {A : Option Addr} {n c : Nat} {es : List Ded} {keep tear : Int} (s : Sl W 7 A n c (flatD es)) (ok : ∀ e, e ∈ es → OkDed W e) (hn : n ≤ 9223372036854775807) (hkp : 0 ≤ keep ∧ keep ≤ 255) (htr : 0 ≤ tear ∧ tear ≤ 255) :
    Calls Try.prog 10 #[.slice A n c, .int .u8 keep, .int .u8 tear] W fun x w' => x = .returned (.bool true) ∧ Below W.heap.size W w' := by
  obtain ⟨kp, rfl⟩ := Int.eq_ofNat_of_zero_le hkp.1
  obtain ⟨tr, rfl⟩ := Int.eq_ofNat_of_zero_le htr.1
  have hln := slD_len s
  have S := Lib.hid s
  have OK := Lib.hid ok
  have Hln := Lib.hid hln
  clear s ok hln
  go_enter Try.func10, Try.ntmps10
  go_wp2_with fail
  refine (new_dsk (room := 1048576) (Below.refl _ _) (by decide)).mono ?_; rintro x w0 ⟨pa, rfl, h0⟩
  go_wp2_with fail
  refine (new_dsk2 (room := 1048576) h0 (by decide)).mono ?_; rintro x w1 ⟨pb, rfl, h1⟩
  have hlo : newD 1048576 = lo none none := rfl
  rw [hlo] at h1
  have H1 := Lib.hid h1
  clear h0 h1 hlo
  go_wp2_with fail
  go_loopw [11] (fun s11 wx => ∃ (i : Nat) (o1 o2 : OF), i ≤ n ∧ i ≤ 40 ∧ s11 = .int .i64 (i : Int) ∧ Hid (lenO o1 + lenO o2 ≤ 300 * i) ∧ Hid (Dsk2 W wx pa (lo o1 o2) pb (lo o1 none))) (fun iv _ => 40 - (intOf iv).toNat)
  case atStart => exact ⟨0, none, none, by omega, by omega, rfl, Lib.hid (by simp [lenO]), H1⟩
  case round =>
    obtain ⟨i, o1, o2, hi, hi40, rfl, HU, HD⟩ := hrel
    by_cases hgo : (i : Int) < (n : Int) ∧ (i : Int) < 40
    · obtain ⟨hgo1, hgo2⟩ := hgo
      obtain ⟨d, hd⟩ := get_some es i (by rw [Hln.out]; omega)
      have hs := S.out.below HD.out.bel
      obtain ⟨ad, rfl⟩ := slD_addr hs hd
      obtain ⟨y0, y1, y2, y3, y4, y5, y6⟩ := slD_seven hs hd
      have hin : (0 : Int) ≤ (i : Int) ∧ (i : Int) < (n : Int) := by omega
      have Hd := Lib.hid (OK.out d (List.mem_of_getElem? hd))
      clear hs hd
      have ho1 := new_own wr (dedC d) 70 7 rfl (by unfold maxLen; omega)
      have hb1 := below_alloc1 wr (.cells (dedC d).toArray 70)
      obtain ⟨w2, hw2⟩ : ∃ w2, w2 = wr.alloc (.cells (dedC d).toArray 70) := ⟨_, rfl⟩
      rw [← hw2] at ho1 hb1
      have HW2 := Lib.hid (show w2 = wr.alloc (.cells #[.int .u8 d.op, .string (bstr d.a), .string (bstr d.t2), .slice d.bA d.b.length d.bc, .int .i64 d.n, .slice d.kA d.ks.length d.kc, .slice d.tA d.ts.length d.tc] 70) from hw2)
      have HO1 := Lib.hid ho1
      have HB1 := Lib.hid hb1
      have e0 := World.ownsRow.cellAt HO1.out 0 (by omega)
      have e1 := World.ownsRow.cellAt HO1.out 1 (by omega)
      have e2 := World.ownsRow.cellAt HO1.out 2 (by omega)
      have e3 := World.ownsRow.cellAt HO1.out 3 (by omega)
      have e4 := World.ownsRow.cellAt HO1.out 4 (by omega)
      have e5 := World.ownsRow.cellAt HO1.out 5 (by omega)
      have e6 := World.ownsRow.cellAt HO1.out 6 (by omega)
      simp only [dedC, List.getElem?_cons_zero, List.getElem?_cons_succ] at e0 e1 e2 e3 e4 e5 e6
      clear hw2 ho1 hb1
      go_upto_region 9 with fail
      rw [← HW2.out]
      clear HW2 y0 y1 y2 y3 y4 y5 y6
      go_wp2_with fail
      refine (large_any d Hd.out w2).mono ?_; rintro x w3 ⟨rfl, hb3⟩
      have f0 := cellB hb3 e0
      have f1 := cellB hb3 e1
      have f2 := cellB hb3 e2
      have HO3 := Lib.hid (HO1.out.below hb3)
      have HB3 := Lib.hid (HB1.out.trans (hb3.mono HB1.out.size))
      have hop := Hd.out.op
      clear e0 e1 e2 e3 e4 e5 e6 hb3 HO1 HB1
      have hskip : ∀ w, Below wr.heap.size wr w → Dsk2 W w pa (lo o1 o2) pb (lo o1 none) := fun w hb => HD.out.below hb
      by_cases hsk : largeB d = true ∨ d.op = 4 ∨ 6 < d.op
      · have HS := Lib.hid (hskip w3 HB3.out)
        have HUs := Lib.hid (show lenO o1 + lenO o2 ≤ 300 * (i + 1) by have := HU.out; omega)
        clear hskip
        cases hlg : largeB d with
        | true =>
          clear hsk
          go_wp2_with fail
          go_roundw
          case rel => exact ⟨i + 1, o1, o2, by omega, by omega, by go_num, HUs, HS⟩
          case measure => simp [intOf]; omega
        | false =>
          by_cases h4 : d.op = 4
          · have h4b : (d.op == 4) = true := by simp [h4]
            go_wp2_with fail
            go_roundw
            case rel => exact ⟨i + 1, o1, o2, by omega, by omega, by go_num, HUs, HS⟩
            case measure => simp [intOf]; omega
          · have h6 : 6 < d.op := by
              rcases hsk with h | h | h
              · rw [hlg] at h; cases h
              · exact absurd h h4
              · exact h
            have h4b : (d.op == 4) = false := by simp [h4]
            clear hsk
            go_wp2_with fail
            go_roundw
            case rel => exact ⟨i + 1, o1, o2, by omega, by omega, by go_num, HUs, HS⟩
            case measure => simp [intOf]; omega
      · have Hlg := Lib.hid (show largeB d = false by cases h : largeB d with | true => exact absurd (.inl h) hsk | false => rfl)
        have Hops := Lib.hid (show d.op ≤ 2 ∨ d.op = 3 ∨ d.op = 5 ∨ d.op = 6 by omega)
        have h4b : (d.op == 4) = false := by simp; omega
        have h6 : d.op ≤ 6 := by omega
        have hlg := Hlg.out
        rw [hlg]
        clear hsk hskip hlg
        have y1 := World.ownsRow.frozenAt HO3.out 1
        have st := World.ownsRow.stored HO3.out 1 (.string (bstr nOne))
        have HO4 := Lib.hid (show Own wr.heap.size 70 1 (w3.setCell ⟨wr.heap.size, 1, none⟩ (.string (bstr nOne))) (some ⟨wr.heap.size, 0, none⟩) 7 7 (dedC (withA d nOne)) from st.1)
        have HB4 := Lib.hid (HB3.out.grown st.2 HB3.out.size (fun q hq => by cases hq; exact Nat.le_refl _))
        have y2 := World.ownsRow.frozenAt HO4.out 1
        have st2 := World.ownsRow.stored HO4.out 1 (.string (bstr nTwo))
        have HO5 := Lib.hid (show Own wr.heap.size 70 1 ((w3.setCell ⟨wr.heap.size, 1, none⟩ (.string (bstr nOne))).setCell ⟨wr.heap.size, 1, none⟩ (.string (bstr nTwo))) (some ⟨wr.heap.size, 0, none⟩) 7 7 (dedC (withA d nTwo)) from st2.1)
        have HB5 := Lib.hid (HB4.out.grown st2.2 HB4.out.size (fun q hq => by cases hq; exact Nat.le_refl _))
        clear st st2
        have s2 : (bstr d.t2).size = d.t2.length := rfl
        have hl2 : d.t2.length ≤ 100 := (small_of Hlg.out).2.1
        by_cases hodd : d.t2.length % 2 = 1
        · have ho : (((d.t2.length : Int) % 2) == 1) = true := by simp; omega
          go_upto_region 13 with fail
          obtain ⟨wq, hwq⟩ : ∃ wq, wq = ((w3.setCell ⟨wr.heap.size, 1, none⟩ (.string { data := #[111, 110, 101] })).setCell ⟨wr.heap.size, 1, none⟩ (.string { data := #[116, 119, 111] })) := ⟨_, rfl⟩
          rw [← hwq]
          have HOq := Lib.hid (show Own wr.heap.size 70 1 wq (some ⟨wr.heap.size, 0, none⟩) 7 7 (dedC (withA d nTwo)) by rw [hwq]; exact HO5.out)
          have HBq := Lib.hid (show Below wr.heap.size wr wq by rw [hwq]; exact HB5.out)
          clear hwq HO4 HB4 HO5 HB5 y1 y2 f0 f1 f2 HO3 HB3
          have q0 := World.ownsRow.cellAt HOq.out 0 (by omega)
          have q1 := World.ownsRow.cellAt HOq.out 1 (by omega)
          have q2 := World.ownsRow.cellAt HOq.out 2 (by omega)
          have q3 := World.ownsRow.cellAt HOq.out 3 (by omega)
          have q4 := World.ownsRow.cellAt HOq.out 4 (by omega)
          have q5 := World.ownsRow.cellAt HOq.out 5 (by omega)
          have q6 := World.ownsRow.cellAt HOq.out 6 (by omega)
          simp only [dedC, withA, List.getElem?_cons_zero, List.getElem?_cons_succ] at q0 q1 q2 q3 q4 q5 q6
          go_wp2_with fail
          refine (HD.out.stepK (P := fun x => x = .returned (.int .i64 (doesD (lo o1 o2) (withA d nTwo)).1)) HBq.out (fun F hF => does_any hF (withA d nTwo) (Hd.out.withA (by decide)) ((Hd.out.withA (by decide)).below (HD.out.bel.trans (HBq.out.mono HD.out.bel.size))) (Nat.le_refl _) (large_withA Hlg.out (by decide)))).mono ?_
          rintro x w6 ⟨rfl, d6, k6⟩
          have hNX := lone_two o1 o2 (withA d nTwo) rfl (by unfold withA; exact Hops.out) (by have := HU.out; have := (small_of Hlg.out).2.2.1; unfold withA; simp only; omega)
          rw [hNX] at d6
          rw [hNX]
          have D6 := Lib.hid d6
          have z1 : w6.cell? ⟨wr.heap.size, 1, none⟩ = some (.string (bstr nTwo)) := by
            have := own_same HOq.out (w' := w6) (fun a ha => by cases ha; exact k6 _ (Nat.le_refl _) (World.ownsRow.lt HOq.out _ rfl).2)
            have := World.ownsRow.cellAt this 1 (by omega)
            simpa [dedC, withA] using this
          have HOz := Lib.hid (own_same HOq.out (w' := w6) (fun a ha => by cases ha; exact k6 _ (Nat.le_refl _) (World.ownsRow.lt HOq.out _ rfl).2))
          clear q0 q1 q2 q3 q4 q5 q6 d6 k6 hNX HOq
          have HN := Lib.hid (next_len o2 (withA d nTwo))
          generalize nextL o2 (withA d nTwo) = nx at *
          have hne : ((bstr nTwo).toList == [111, 110, 101]) = false := by rw [bstr_toList]; decide
          go_wp2_with fail
          refine (size_dsk2 (nm := nOne) D6.out (by rfl)).mono ?_
          rintro x w8 ⟨rfl, hb8, d8⟩
          rw [lone_look]
          have D8 := Lib.hid d8
          clear hb8 d8
          go_wp2_with fail
          refine (size_dsk2 (nm := nOne) D8.out.swap (by rfl)).mono ?_
          rintro x w9 ⟨rfl, hb9, d9⟩
          have D9 := Lib.hid d9.swap
          clear hb9 d9 D8
          go_wp2_with fail
          refine (synced_dsk2 (nm := nOne) D9.out (by rfl)).mono ?_
          rintro x wa ⟨rfl, hba, da⟩
          rw [lone_look]
          have DA := Lib.hid da
          clear hba da D9
          go_wp2_with fail
          refine (synced_dsk2 (nm := nOne) DA.out.swap (by rfl)).mono ?_
          rintro x wb ⟨rfl, hbb, db⟩
          have DB := Lib.hid db.swap
          have HUn := Lib.hid (show lenO o1 + lenO nx.2 ≤ 300 * (i + 1) by
            have h5 := HU.out
            have h6 := HN.out
            have h7 := (small_of Hlg.out).2.2.1
            have h8 : (withA d nTwo).b = d.b := rfl
            rw [h8] at h6
            omega)
          clear hbb db DA
          go_wp2_with fail
          go_roundw
          case rel => exact ⟨i + 1, o1, nx.2, by omega, by omega, by go_num, HUn, DB⟩
          case measure => simp [intOf]; omega
        · have ho : (((d.t2.length : Int) % 2) == 1) = false := by simp; omega
          go_upto_region 13 with fail
          obtain ⟨wq, hwq⟩ : ∃ wq, wq = (w3.setCell ⟨wr.heap.size, 1, none⟩ (.string { data := #[111, 110, 101] })) := ⟨_, rfl⟩
          rw [← hwq]
          have HOq := Lib.hid (show Own wr.heap.size 70 1 wq (some ⟨wr.heap.size, 0, none⟩) 7 7 (dedC (withA d nOne)) by rw [hwq]; exact HO4.out)
          have HBq := Lib.hid (show Below wr.heap.size wr wq by rw [hwq]; exact HB4.out)
          clear hwq HO4 HB4 HO5 HB5 y1 y2 f0 f1 f2 HO3 HB3
          have q0 := World.ownsRow.cellAt HOq.out 0 (by omega)
          have q1 := World.ownsRow.cellAt HOq.out 1 (by omega)
          have q2 := World.ownsRow.cellAt HOq.out 2 (by omega)
          have q3 := World.ownsRow.cellAt HOq.out 3 (by omega)
          have q4 := World.ownsRow.cellAt HOq.out 4 (by omega)
          have q5 := World.ownsRow.cellAt HOq.out 5 (by omega)
          have q6 := World.ownsRow.cellAt HOq.out 6 (by omega)
          simp only [dedC, withA, List.getElem?_cons_zero, List.getElem?_cons_succ] at q0 q1 q2 q3 q4 q5 q6
          go_wp2_with fail
          refine (HD.out.stepK (P := fun x => x = .returned (.int .i64 (doesD (lo o1 o2) (withA d nOne)).1)) HBq.out (fun F hF => does_any hF (withA d nOne) (Hd.out.withA (by decide)) ((Hd.out.withA (by decide)).below (HD.out.bel.trans (HBq.out.mono HD.out.bel.size))) (Nat.le_refl _) (large_withA Hlg.out (by decide)))).mono ?_
          rintro x w6 ⟨rfl, d6, k6⟩
          have hNX := lone_one o1 o2 (withA d nOne) rfl (by unfold withA; exact Hops.out) (by have := HU.out; have := (small_of Hlg.out).2.2.1; unfold withA; simp only; omega)
          rw [hNX] at d6
          rw [hNX]
          have D6 := Lib.hid d6
          have z1 : w6.cell? ⟨wr.heap.size, 1, none⟩ = some (.string (bstr nOne)) := by
            have := own_same HOq.out (w' := w6) (fun a ha => by cases ha; exact k6 _ (Nat.le_refl _) (World.ownsRow.lt HOq.out _ rfl).2)
            have := World.ownsRow.cellAt this 1 (by omega)
            simpa [dedC, withA] using this
          have HOz := Lib.hid (own_same HOq.out (w' := w6) (fun a ha => by cases ha; exact k6 _ (Nat.le_refl _) (World.ownsRow.lt HOq.out _ rfl).2))
          clear q0 q1 q2 q3 q4 q5 q6 d6 k6 hNX HOq
          have z0 := World.ownsRow.cellAt HOz.out 0 (by omega)
          have z2 := World.ownsRow.cellAt HOz.out 2 (by omega)
          have z3 := World.ownsRow.cellAt HOz.out 3 (by omega)
          have z4 := World.ownsRow.cellAt HOz.out 4 (by omega)
          have z5 := World.ownsRow.cellAt HOz.out 5 (by omega)
          have z6 := World.ownsRow.cellAt HOz.out 6 (by omega)
          simp only [dedC, withA, List.getElem?_cons_zero, List.getElem?_cons_succ] at z0 z2 z3 z4 z5 z6
          go_wp2_with fail
          refine (does_dsk2 D6.out.swap (withA d nOne) (Hd.out.withA (by decide)) (large_withA Hlg.out (by decide))).mono ?_
          rintro x w7 ⟨rfl, d7⟩
          have hNX := lone_one o1 none (withA d nOne) rfl (by unfold withA; exact Hops.out) (by have := HU.out; have := (small_of Hlg.out).2.2.1; unfold withA; show lenO o1 + 0 + d.b.length ≤ 1048576; omega)
          rw [hNX] at d7
          rw [hNX]
          have D7 := Lib.hid d7.swap
          clear d7 hNX z0 z1 z2 z3 z4 z5 z6 HOz D6
          have HN := Lib.hid (next_len o1 (withA d nOne))
          generalize nextL o1 (withA d nOne) = nx at *
          go_wp2_with fail
          refine (size_dsk2 (nm := nOne) D7.out (by rfl)).mono ?_
          rintro x w8 ⟨rfl, hb8, d8⟩
          rw [lone_look]
          have D8 := Lib.hid d8
          clear hb8 d8
          go_wp2_with fail
          refine (size_dsk2 (nm := nOne) D8.out.swap (by rfl)).mono ?_
          rintro x w9 ⟨rfl, hb9, d9⟩
          have D9 := Lib.hid d9.swap
          clear hb9 d9 D8
          go_wp2_with fail
          refine (synced_dsk2 (nm := nOne) D9.out (by rfl)).mono ?_
          rintro x wa ⟨rfl, hba, da⟩
          rw [lone_look]
          have DA := Lib.hid da
          clear hba da D9
          go_wp2_with fail
          refine (synced_dsk2 (nm := nOne) DA.out.swap (by rfl)).mono ?_
          rintro x wb ⟨rfl, hbb, db⟩
          have DB := Lib.hid db.swap
          have HUn := Lib.hid (show lenO nx.2 + lenO o2 ≤ 300 * (i + 1) by
            have h5 := HU.out
            have h6 := HN.out
            have h7 := (small_of Hlg.out).2.2.1
            have h8 : (withA d nOne).b = d.b := rfl
            rw [h8] at h6
            omega)
          clear hbb db DA
          go_wp2_with fail
          go_roundw
          case rel => exact ⟨i + 1, nx.2, o2, by omega, by omega, by go_num, HUn, DB⟩
          case measure => simp [intOf]; omega
    · by_cases h1 : (i : Int) < (n : Int)
      · have h2 : ¬ (i : Int) < 40 := fun h => hgo ⟨h1, h⟩
        clear hgo
        have HDf := HD
        clear HU
        go_wp2_with fail
        refine (crash2_lit2 (ks := [(kp : Int), 7]) (ts := [(tr : Int), 9]) HDf.out (by rfl) (by rfl) (by rfl) (by rfl) (by rfl) (by intro x hx; simp at hx; omega) (by intro x hx; simp at hx; omega)).mono ?_
        rintro x w2 ⟨rfl, d2⟩
        obtain ⟨o3, h3⟩ := lone_crash o1 o2 kp tr
        rw [h3] at d2
        have D2 := Lib.hid d2
        clear d2 h3 HDf HD
        go_wp2_with fail
        refine (crash2_lit2 (ks := [(kp : Int)]) (ts := [(tr : Int)]) D2.out.swap (by rfl) (by rfl) (by rfl) (by rfl) (by rfl) (by intro x hx; simp at hx; omega) (by intro x hx; simp at hx; omega)).mono ?_
        rintro x w3 ⟨rfl, d3⟩
        rw [lone_crash1] at d3
        have D3 := Lib.hid d3.swap
        clear d3 D2
        go_wp2_with fail
        refine (read_dsk2 (nm := nOne) D3.out (by rfl)).mono ?_
        rintro x w4 ⟨A4, c4, rfl, p4, hb4, d4⟩
        rw [lone_read] at p4
        rw [lone_read]
        have D4 := Lib.hid d4
        clear D3 d4
        go_wp2_with fail
        refine (read_dsk2 (nm := nOne) D4.out.swap (by rfl)).mono ?_
        rintro x w5 ⟨A5, c5, rfl, p5, hb5, d5⟩
        have k4 := run_str (p4.below hb5).sl
        have k5 := run_str p5.sl
        have D5 := Lib.hid d5.swap
        clear D4 d5 p4 p5 hb4 hb5
        generalize readD (lo (leftO o1 kp tr) none) nOne = rr at *
        go_wp2_with fail
        refine (synced_dsk2 (nm := nOne) D5.out (by rfl)).mono ?_
        rintro x wa ⟨rfl, hba, da⟩
        rw [lone_look]
        have DA := Lib.hid da
        clear hba da D5
        go_wp2_with fail
        refine (synced_dsk2 (nm := nOne) DA.out.swap (by rfl)).mono ?_
        rintro x wb ⟨rfl, hbb, db⟩
        have DB := Lib.hid db
        clear hbb db DA
        go_wp2_with fail
        refine (awake2_any _).mono ?_; rintro x wl ⟨rfl, hbl⟩
        go_wp2_with fail
        go_ret
        exact ⟨rfl, DB.out.bel.trans (hbl.mono DB.out.bel.size)⟩
      · clear hgo
        have HDf := HD
        clear HU
        go_wp2_with fail
        refine (crash2_lit2 (ks := [(kp : Int), 7]) (ts := [(tr : Int), 9]) HDf.out (by rfl) (by rfl) (by rfl) (by rfl) (by rfl) (by intro x hx; simp at hx; omega) (by intro x hx; simp at hx; omega)).mono ?_
        rintro x w2 ⟨rfl, d2⟩
        obtain ⟨o3, h3⟩ := lone_crash o1 o2 kp tr
        rw [h3] at d2
        have D2 := Lib.hid d2
        clear d2 h3 HDf HD
        go_wp2_with fail
        refine (crash2_lit2 (ks := [(kp : Int)]) (ts := [(tr : Int)]) D2.out.swap (by rfl) (by rfl) (by rfl) (by rfl) (by rfl) (by intro x hx; simp at hx; omega) (by intro x hx; simp at hx; omega)).mono ?_
        rintro x w3 ⟨rfl, d3⟩
        rw [lone_crash1] at d3
        have D3 := Lib.hid d3.swap
        clear d3 D2
        go_wp2_with fail
        refine (read_dsk2 (nm := nOne) D3.out (by rfl)).mono ?_
        rintro x w4 ⟨A4, c4, rfl, p4, hb4, d4⟩
        rw [lone_read] at p4
        rw [lone_read]
        have D4 := Lib.hid d4
        clear D3 d4
        go_wp2_with fail
        refine (read_dsk2 (nm := nOne) D4.out.swap (by rfl)).mono ?_
        rintro x w5 ⟨A5, c5, rfl, p5, hb5, d5⟩
        have k4 := run_str (p4.below hb5).sl
        have k5 := run_str p5.sl
        have D5 := Lib.hid d5.swap
        clear D4 d5 p4 p5 hb4 hb5
        generalize readD (lo (leftO o1 kp tr) none) nOne = rr at *
        go_wp2_with fail
        refine (synced_dsk2 (nm := nOne) D5.out (by rfl)).mono ?_
        rintro x wa ⟨rfl, hba, da⟩
        rw [lone_look]
        have DA := Lib.hid da
        clear hba da D5
        go_wp2_with fail
        refine (synced_dsk2 (nm := nOne) DA.out.swap (by rfl)).mono ?_
        rintro x wb ⟨rfl, hbb, db⟩
        have DB := Lib.hid db
        clear hbb db DA
        go_wp2_with fail
        refine (awake2_any _).mono ?_; rintro x wl ⟨rfl, hbl⟩
        go_wp2_with fail
        go_ret
        exact ⟨rfl, DB.out.bel.trans (hbl.mono DB.out.bel.size)⟩
end Go.Proofs.Ytemegkapmgcffaa
