import Derived.Test.YtemegkapmgcffaaGreatR2A
import Derived.Test.YtemegkapmgcffaaGreatRefRt
import Derived.Test.YtemegkapmgcffaaGreatPureR6
/- The document's roots upon its disk, by value: Read. -/
namespace Go.Proofs.YtemegkapmgcffaaGreat
open Go.RowKit
set_option linter.unusedSimpArgs false
set_option linter.unusedVariables false

section
variable {w : World} {room fuse : Int} {dark : Bool} {A : Option Addr} {n c : Nat} {es : List FE}
set_option maxRecDepth 100000 in
set_option maxHeartbeats 16000000 in
theorem r6Read_any (hs : Sl w 3 A n c (flatFE es)) (hok : ∀ e, e ∈ es → Sl w 1 e.A e.f.b.length e.c (bytesV e.f.b)) (hso : SrtF (es.map FE.f)) (hn : n ≤ 1000) (hlb : ∀ e, e ∈ es → e.f.b.length ≤ 900000) {R : Rt × Bool × Int} (hR : readRD ⟨room, fuse, dark, es.map FE.f⟩ = R) :
    Calls Tryz.prog 19 #[.agg #[.int .i64 room, .slice A n c, .int .i64 fuse, .bool dark]] w fun x w' => ∃ A' c', x = .returned (.tuple #[rtV R.1.s R.1.b A' R.1.x.length c', .bool R.2.1, .int .i64 R.2.2]) ∧ Sl w' 1 A' R.1.x.length c' (bytesV R.1.x) ∧ Below w.heap.size w w' := by
  have hln := slFE_len hs
  have hb1 := below_alloc1 w (.cells #[.int .i64 room, .slice A n c, .int .i64 fuse, .bool dark] 30)
  have k1 := box_cellsR w [.int .i64 room, .slice A n c, .int .i64 fuse, .bool dark] 30 1 _ rfl
  have k3 := box_cellsR w [.int .i64 room, .slice A n c, .int .i64 fuse, .bool dark] 30 3 _ rfl
  obtain ⟨w1, hw1⟩ : ∃ w1, w1 = w.alloc (.cells #[.int .i64 room, .slice A n c, .int .i64 fuse, .bool dark] 30) := ⟨_, rfl⟩
  have hT1 : (w.alloc (.cells [.int .i64 room, .slice A n c, .int .i64 fuse, .bool dark].toArray 30)) = w1 := hw1.symm
  rw [hT1] at k1 k3
  rw [← hw1] at hb1
  have hz1 : w1.heap.size = w.heap.size + 1 := by rw [hw1]; simp
  have hb2 := below_alloc1 w1 (.cells #[.int .i64 0, .int .i64 0, .slice none 0 0] 36)
  have orr := new_own w1 [.int .i64 0, .int .i64 0, .slice none 0 0] 36 3 rfl (by unfold maxLen; omega)
  obtain ⟨w2, hw2⟩ : ∃ w2, w2 = w1.alloc (.cells #[.int .i64 0, .int .i64 0, .slice none 0 0] 36) := ⟨_, rfl⟩
  have hT2 : (w1.alloc (.cells [Value.int .i64 0, .int .i64 0, .slice none 0 0].toArray 36)) = w2 := hw2.symm
  rw [hT2, hz1] at orr
  rw [← hw2] at hb2
  have hz2 : w2.heap.size = w.heap.size + 2 := by rw [hw2]; simp [hz1]
  have eW : (w.alloc (.cells #[.int .i64 room, .slice A n c, .int .i64 fuse, .bool dark] 30)).alloc (.cells #[.int .i64 0, .int .i64 0, .slice none 0 0] 36) = w2 := by rw [hw2, hw1]
  have k1 := cellB hb2 k1
  have k3 := cellB hb2 k3
  have OR := Lib.hid (Own.lower orr (show w.heap.size ≤ w.heap.size + 1 by omega))
  have HB := Lib.hid (hb1.trans (hb2.mono hb1.size))
  have HS := Lib.hid (hs.below HB.out)
  have HSB := Lib.hid (show ∀ e, e ∈ es → Sl w2 1 e.A e.f.b.length e.c (bytesV e.f.b) from fun e he => (hok e he).below HB.out)
  have HSO := Lib.hid hso
  have HLB := Lib.hid hlb
  have HR := Lib.hid hR
  have HZ2 := Lib.hid hz2
  have K1 := Lib.hid k1
  clear hb1 hb2 hw1 hw2 hT1 hT2 hz1 hz2 orr hs hok hso hlb hR k1
  go_enter Tryz.func19, Tryz.ntmps19
  go_upto_region 1 with fail
  clear eW
  cases dark with
  | true =>
    have HRR := Lib.hid (show R = (rt0, false, 15) by rw [← HR.out]; unfold readRD; rw [if_pos rfl])
    have z0 := World.ownsRow.cellAt OR.out 0 (by omega)
    have z1 := World.ownsRow.cellAt OR.out 1 (by omega)
    have z2 := World.ownsRow.cellAt OR.out 2 (by omega)
    simp only [List.getElem?_cons_zero, List.getElem?_cons_succ] at z0 z1 z2
    have f0 := World.ownsRow.frozenAt OR.out 0
    have f1 := World.ownsRow.frozenAt OR.out 1
    have f2 := World.ownsRow.frozenAt OR.out 2
    have Hst := Lib.hid (stored3R OR.out (.int .i64 0) (.int .i64 0) (.slice none 0 0))
    go_wp2_with fail
    refine bodyPost_ret (results_cell2 rfl _ _ _ ⟨w.heap.size + 1, 0, none⟩ rfl _ (load_ownR Hst.out.1)) rfl ?_
    rw [HRR.out]
    exact ⟨none, 0, rfl, Sl.nil _ _, wrote3t HB.out Hst.out.2 (by omega)⟩
  | false =>
    obtain ⟨D, hD⟩ : ∃ D, D = (⟨room, fuse, false, es.map FE.f⟩ : Dk) := ⟨_, rfl⟩
    have HDf := Lib.hid (show D.fs = es.map FE.f by rw [hD])
    have HDd := Lib.hid (show D.dark = false by rw [hD])
    have HRR := Lib.hid (show R = (partR D n, decide (0 < (partR D n).s), 0) by
      rw [← HR.out, ← hD]
      unfold readRD
      rw [if_neg (by rw [HDd.out]; simp), ← part_all HDd.out, HDf.out, List.length_map, hln])
    clear hD
    go_upto_region 4 with fail
    have hT3 : Own w2.heap.size 36 1 (w2.alloc (.cells #[.int .i64 0, .int .i64 0, .slice none 0 0] 36)) (some ⟨w2.heap.size, 0, none⟩) 3 3 [.int .i64 0, .int .i64 0, .slice none 0 0] := new_own w2 [.int .i64 0, .int .i64 0, .slice none 0 0] 36 3 rfl (by unfold maxLen; omega)
    have hb3 := below_alloc1 w2 (.cells #[.int .i64 0, .int .i64 0, .slice none 0 0] 36)
    obtain ⟨w3, hw3⟩ : ∃ w3, w3 = w2.alloc (.cells #[.int .i64 0, .int .i64 0, .slice none 0 0] 36) := ⟨_, rfl⟩
    rw [← hw3] at hT3 hb3 ⊢
    obtain ⟨bq, hg⟩ : ∃ bq, bq = w2.heap.size := ⟨_, rfl⟩
    rw [← hg] at hT3 hb3 ⊢
    have Hg := Lib.hid hg
    have HT3 := Lib.hid hT3
    have HB3 := Lib.hid hb3
    clear hT3 hb3 hw3 hg k3
    go_wp2_with fail
    go_loopw [6, 7] (fun s6 s7 wx => ∃ (k : Nat) (A1 : Option Addr) (c1 : Nat), k ≤ n ∧ s6 = .bool (decide (0 < (partR D k).s)) ∧ s7 = .int .i64 (k : Int) ∧ Hid (Own bq 36 1 wx (some ⟨bq, 0, none⟩) 3 3 [.int .i64 (partR D k).s, .int .i64 (partR D k).b, .slice A1 (partR D k).x.length c1]) ∧ Hid (Sl wx 1 A1 (partR D k).x.length c1 (bytesV (partR D k).x)) ∧ Hid (Below bq w2 wx)) (fun _ iv _ => n - (intOf iv).toNat)
    case atStart =>
      refine ⟨0, none, 0, by omega, ?_, rfl, ?_, ?_, HB3⟩
      · rw [part_zero]; simp [rt0]
      · rw [part_zero]; exact HT3
      · rw [part_zero]; exact Lib.hid (Sl.nil _ _)
    case round =>
      obtain ⟨k, A1, c1, hk, rfl, rfl, HO, HSl, HW⟩ := hrel
      have hwb : Below w2.heap.size w2 wr := by rw [← Hg.out]; exact HW.out
      have HWB := Lib.hid hwb
      have d1 := cellB hwb K1.out
      clear hwb
      by_cases g1 : (k : Int) < (n : Int)
      · obtain ⟨e, he⟩ := get_some es k (by omega)
        have hss := HS.out.below HWB.out
        obtain ⟨ad, rfl⟩ := slFE_addr hss he
        obtain ⟨y0, y1, y2⟩ := slFE_three hss he
        have hin : (0 : Int) ≤ (k : Int) ∧ (k : Int) < (n : Int) := by omega
        have hfk : D.fs[k]? = some e.f := by rw [HDf.out, List.getElem?_map, he]; rfl
        have HSe := Lib.hid ((HSB.out e (List.mem_of_getElem? he)).below HWB.out)
        have hle := HLB.out e (List.mem_of_getElem? he)
        have HFK := Lib.hid hfk
        have HSRT := Lib.hid (show SrtF D.fs by rw [HDf.out]; exact HSO.out)
        have hnm : ∃ q0 q1 : Bool, (e.f.nm == [114, 111, 111, 116, 48]) = q0 ∧ (e.f.nm == [114, 111, 111, 116, 49]) = q1 := ⟨_, _, rfl, rfl⟩
        obtain ⟨q0, q1, hq0, hq1⟩ := hnm
        by_cases hmiss : q0 = false ∧ q1 = false
        · obtain ⟨rfl, rfl⟩ := hmiss
          have HP := Lib.hid (part_other hfk (fun h => by rw [show rn0 = [114, 111, 111, 116, 48] from rfl] at h; rw [h] at hq0; simp at hq0) (fun h => by rw [show rn1 = [114, 111, 111, 116, 49] from rfl] at h; rw [h] at hq1; simp at hq1))
          clear hss he hfk
          go_wp2_with fail
          go_roundw
          case rel => exact ⟨k + 1, A1, c1, by omega, by rw [HP.out], by go_num, by rw [HP.out]; exact HO, by rw [HP.out]; exact HSl, HW⟩
          case measure => simp [intOf]; omega
        · have hnmr : e.f.nm = rn0 ∨ e.f.nm = rn1 := by
            cases q0 with
            | true => exact .inl (by show e.f.nm = [114, 111, 111, 116, 48]; simpa using hq0)
            | false => cases q1 with
              | true => exact .inr (by show e.f.nm = [114, 111, 111, 116, 49]; simpa using hq1)
              | false => exact absurd ⟨rfl, rfl⟩ hmiss
          have HP := Lib.hid (show partR D (k + 1) = _ from (part_hit HSRT.out hfk hnmr).trans (cand_own HSRT.out HDd.out hfk _))
          have hcp := refParse_any e.A e.f.b.length e.c e.f.b wr HSe.out (by omega)
          obtain ⟨P, hP⟩ : ∃ P, P = parseF e.f.b := ⟨_, rfl⟩
          rw [← hP] at hcp HP
          have HP1 := Lib.hid (show P.2 = 0 → 1 ≤ P.1.s from fun h => by rw [hP] at h ⊢; exact parse_one _ h)
          obtain ⟨acc, hacc⟩ : ∃ acc, acc = partR D k := ⟨_, rfl⟩
          have HA0 := Lib.hid (show 0 ≤ acc.s by rw [hacc]; exact part_rng D k)
          rw [← hacc] at HO HSl HP ⊢
          clear hss he hfk hP hacc hnmr HSe
          cases q0 with
          | true =>
            clear hq1 hmiss
            go_wp2_with fail
            refine hcp.mono ?_; rintro x w5 ⟨A5, c5, rfl, s5, b5⟩
            clear hcp
            have hb6 := below_alloc1 w5 (.cells #[.int .i64 P.1.s, .int .i64 P.1.b, .slice A5 P.1.x.length c5] 36)
            have q0 := box_cellsR w5 [.int .i64 P.1.s, .int .i64 P.1.b, .slice A5 P.1.x.length c5] 36 0 _ rfl
            have q1 := box_cellsR w5 [.int .i64 P.1.s, .int .i64 P.1.b, .slice A5 P.1.x.length c5] 36 1 _ rfl
            have q2 := box_cellsR w5 [.int .i64 P.1.s, .int .i64 P.1.b, .slice A5 P.1.x.length c5] 36 2 _ rfl
            go_upto_region 9 with fail
            obtain ⟨w6, hw6⟩ : ∃ w6, w6 = w5.alloc (.cells #[.int .i64 P.1.s, .int .i64 P.1.b, .slice A5 P.1.x.length c5] 36) := ⟨_, rfl⟩
            have hT6 : (w5.alloc (.cells [Value.int .i64 P.1.s, .int .i64 P.1.b, .slice A5 P.1.x.length c5].toArray 36)) = w6 := hw6.symm
            rw [hT6] at q0 q1 q2
            rw [← hw6] at hb6 ⊢
            clear hw6 hT6
            have b56 := b5.trans (hb6.mono b5.size)
            have S6 := Lib.hid (s5.below hb6)
            have O6 := Lib.hid (Own.below HO.out b56)
            have HS6 := Lib.hid (HSl.out.below b56)
            have HW6 := Lib.hid (HW.out.trans (b56.mono (by rw [Hg.out]; exact HW.out.size)))
            have o0 := World.ownsRow.cellAt O6.out 0 (by omega)
            have o1 := World.ownsRow.cellAt O6.out 1 (by omega)
            have o2 := World.ownsRow.cellAt O6.out 2 (by omega)
            simp only [List.getElem?_cons_zero, List.getElem?_cons_succ] at o0 o1 o2
            clear s5 b5 hb6 b56 HO HSl HW y0 y1 y2 d1
            by_cases e0 : P.2 = 0
            · have hp1 := HP1.out e0
              by_cases g : acc.s < P.1.s
              · have HPn := Lib.hid (show partR D (k + 1) = P.1 by rw [HP.out, if_pos ⟨e0, g⟩])
                have HPo := Lib.hid (show decide (0 < P.1.s) = true by simp; omega)
                have he0 : (P.2 == 0) = true := by simpa using e0
                have f0 := World.ownsRow.frozenAt O6.out 0
                have f1 := World.ownsRow.frozenAt O6.out 1
                have f2 := World.ownsRow.frozenAt O6.out 2
                have Hst := Lib.hid (stored3R O6.out (.int .i64 P.1.s) (.int .i64 P.1.b) (.slice A5 P.1.x.length c5))
                have HK6 := Lib.hid (sl_kept3 (held_of_own O6.out) S6.out Hst.out.2)
                have HWn := Lib.hid (HW6.out.grown Hst.out.2 (by rw [Hg.out]; exact HW6.out.size) (fun q hq => by cases hq; exact Nat.le_refl _))
                clear e0
                cases hoo : decide (0 < acc.s) with
                | true =>
                  clear hoo
                  go_wp2_with fail
                  go_roundw
                  case rel => exact ⟨k + 1, A5, c5, by omega, by rw [HPn.out, HPo.out], by go_num, by rw [HPn.out]; exact Lib.hid Hst.out.1, by rw [HPn.out]; exact HK6, HWn⟩
                  case measure => simp [intOf]; omega
                | false =>
                  clear hoo
                  go_wp2_with fail
                  go_roundw
                  case rel => exact ⟨k + 1, A5, c5, by omega, by rw [HPn.out, HPo.out], by go_num, by rw [HPn.out]; exact Lib.hid Hst.out.1, by rw [HPn.out]; exact HK6, HWn⟩
                  case measure => simp [intOf]; omega
              · have HPn := Lib.hid (show partR D (k + 1) = acc by rw [HP.out, if_neg (fun h => g h.2)])
                have HPo := Lib.hid (show decide (0 < acc.s) = true by simp; omega)
                have he0 : (P.2 == 0) = true := by simpa using e0
                rw [HPo.out]
                clear e0
                go_wp2_with fail
                go_roundw
                case rel => exact ⟨k + 1, A1, c1, by omega, by rw [HPn.out, HPo.out], by go_num, by rw [HPn.out]; exact O6, by rw [HPn.out]; exact HS6, HW6⟩
                case measure => simp [intOf]; omega
            · have HPn := Lib.hid (show partR D (k + 1) = acc by rw [HP.out, if_neg (fun h => e0 h.1)])
              have he0 : (P.2 == 0) = false := by simpa using e0
              clear e0
              go_wp2_with fail
              go_roundw
              case rel => exact ⟨k + 1, A1, c1, by omega, by rw [HPn.out], by go_num, by rw [HPn.out]; exact O6, by rw [HPn.out]; exact HS6, HW6⟩
              case measure => simp [intOf]; omega
          | false =>
            have hq1t : q1 = true := by
              cases q1 with
              | true => rfl
              | false => exact absurd ⟨rfl, rfl⟩ hmiss
            subst hq1t
            clear hmiss
            go_wp2_with fail
            refine hcp.mono ?_; rintro x w5 ⟨A5, c5, rfl, s5, b5⟩
            clear hcp
            have hb6 := below_alloc1 w5 (.cells #[.int .i64 P.1.s, .int .i64 P.1.b, .slice A5 P.1.x.length c5] 36)
            have q0 := box_cellsR w5 [.int .i64 P.1.s, .int .i64 P.1.b, .slice A5 P.1.x.length c5] 36 0 _ rfl
            have q1 := box_cellsR w5 [.int .i64 P.1.s, .int .i64 P.1.b, .slice A5 P.1.x.length c5] 36 1 _ rfl
            have q2 := box_cellsR w5 [.int .i64 P.1.s, .int .i64 P.1.b, .slice A5 P.1.x.length c5] 36 2 _ rfl
            go_upto_region 9 with fail
            obtain ⟨w6, hw6⟩ : ∃ w6, w6 = w5.alloc (.cells #[.int .i64 P.1.s, .int .i64 P.1.b, .slice A5 P.1.x.length c5] 36) := ⟨_, rfl⟩
            have hT6 : (w5.alloc (.cells [Value.int .i64 P.1.s, .int .i64 P.1.b, .slice A5 P.1.x.length c5].toArray 36)) = w6 := hw6.symm
            rw [hT6] at q0 q1 q2
            rw [← hw6] at hb6 ⊢
            clear hw6 hT6
            have b56 := b5.trans (hb6.mono b5.size)
            have S6 := Lib.hid (s5.below hb6)
            have O6 := Lib.hid (Own.below HO.out b56)
            have HS6 := Lib.hid (HSl.out.below b56)
            have HW6 := Lib.hid (HW.out.trans (b56.mono (by rw [Hg.out]; exact HW.out.size)))
            have o0 := World.ownsRow.cellAt O6.out 0 (by omega)
            have o1 := World.ownsRow.cellAt O6.out 1 (by omega)
            have o2 := World.ownsRow.cellAt O6.out 2 (by omega)
            simp only [List.getElem?_cons_zero, List.getElem?_cons_succ] at o0 o1 o2
            clear s5 b5 hb6 b56 HO HSl HW y0 y1 y2 d1
            by_cases e0 : P.2 = 0
            · have hp1 := HP1.out e0
              by_cases g : acc.s < P.1.s
              · have HPn := Lib.hid (show partR D (k + 1) = P.1 by rw [HP.out, if_pos ⟨e0, g⟩])
                have HPo := Lib.hid (show decide (0 < P.1.s) = true by simp; omega)
                have he0 : (P.2 == 0) = true := by simpa using e0
                have f0 := World.ownsRow.frozenAt O6.out 0
                have f1 := World.ownsRow.frozenAt O6.out 1
                have f2 := World.ownsRow.frozenAt O6.out 2
                have Hst := Lib.hid (stored3R O6.out (.int .i64 P.1.s) (.int .i64 P.1.b) (.slice A5 P.1.x.length c5))
                have HK6 := Lib.hid (sl_kept3 (held_of_own O6.out) S6.out Hst.out.2)
                have HWn := Lib.hid (HW6.out.grown Hst.out.2 (by rw [Hg.out]; exact HW6.out.size) (fun q hq => by cases hq; exact Nat.le_refl _))
                clear e0
                cases hoo : decide (0 < acc.s) with
                | true =>
                  clear hoo
                  go_wp2_with fail
                  go_roundw
                  case rel => exact ⟨k + 1, A5, c5, by omega, by rw [HPn.out, HPo.out], by go_num, by rw [HPn.out]; exact Lib.hid Hst.out.1, by rw [HPn.out]; exact HK6, HWn⟩
                  case measure => simp [intOf]; omega
                | false =>
                  clear hoo
                  go_wp2_with fail
                  go_roundw
                  case rel => exact ⟨k + 1, A5, c5, by omega, by rw [HPn.out, HPo.out], by go_num, by rw [HPn.out]; exact Lib.hid Hst.out.1, by rw [HPn.out]; exact HK6, HWn⟩
                  case measure => simp [intOf]; omega
              · have HPn := Lib.hid (show partR D (k + 1) = acc by rw [HP.out, if_neg (fun h => g h.2)])
                have HPo := Lib.hid (show decide (0 < acc.s) = true by simp; omega)
                have he0 : (P.2 == 0) = true := by simpa using e0
                rw [HPo.out]
                clear e0
                go_wp2_with fail
                go_roundw
                case rel => exact ⟨k + 1, A1, c1, by omega, by rw [HPn.out, HPo.out], by go_num, by rw [HPn.out]; exact O6, by rw [HPn.out]; exact HS6, HW6⟩
                case measure => simp [intOf]; omega
            · have HPn := Lib.hid (show partR D (k + 1) = acc by rw [HP.out, if_neg (fun h => e0 h.1)])
              have he0 : (P.2 == 0) = false := by simpa using e0
              clear e0
              go_wp2_with fail
              go_roundw
              case rel => exact ⟨k + 1, A1, c1, by omega, by rw [HPn.out], by go_num, by rw [HPn.out]; exact O6, by rw [HPn.out]; exact HS6, HW6⟩
              case measure => simp [intOf]; omega
      · obtain rfl : k = n := by omega
        have OR7 := Lib.hid (Own.below OR.out HWB.out)
        have o0 := World.ownsRow.cellAt HO.out 0 (by omega)
        have o1 := World.ownsRow.cellAt HO.out 1 (by omega)
        have o2 := World.ownsRow.cellAt HO.out 2 (by omega)
        have z0 := World.ownsRow.cellAt OR7.out 0 (by omega)
        have z1 := World.ownsRow.cellAt OR7.out 1 (by omega)
        have z2 := World.ownsRow.cellAt OR7.out 2 (by omega)
        simp only [List.getElem?_cons_zero, List.getElem?_cons_succ] at z0 z1 z2 o0 o1 o2
        have f0 := World.ownsRow.frozenAt OR7.out 0
        have f1 := World.ownsRow.frozenAt OR7.out 1
        have f2 := World.ownsRow.frozenAt OR7.out 2
        have Hst := Lib.hid (stored3R OR7.out (.int .i64 (partR D k).s) (.int .i64 (partR D k).b) (.slice A1 (partR D k).x.length c1))
        have HK7 := Lib.hid (sl_kept3 (held_of_own OR7.out) HSl.out Hst.out.2)
        go_wp2_with fail
        refine bodyPost_ret (results_cell2 rfl _ _ _ ⟨w.heap.size + 1, 0, none⟩ rfl _ (load_ownR Hst.out.1)) rfl ?_
        rw [HRR.out]
        exact ⟨A1, c1, rfl, HK7.out, wrote3t (HB.out.trans (HWB.out.mono HB.out.size)) Hst.out.2 (by omega)⟩
end
end Go.Proofs.YtemegkapmgcffaaGreat
