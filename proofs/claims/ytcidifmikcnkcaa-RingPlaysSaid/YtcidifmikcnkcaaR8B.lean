import Derived.Test.YtcidifmikcnkcaaR8A
import Derived.Deep.CutBlock
import Derived.Deep.DeepCutAuto
/- The document's rings, by value: with (printed by wip/gen/gr8b.py). -/
namespace Go.Proofs.Ytcidifmikcnkcaa
open Go.RowKit
set_option linter.unusedSimpArgs false
set_option linter.unusedVariables false

theorem oneQ (e : QE) : ∀ u ∈ qeC e, u.oneCell' = true := by
  intro u hu
  simp only [qeC, List.mem_cons, List.not_mem_nil, or_false] at hu
  rcases hu with rfl | rfl | rfl <;> rfl
def With8P (G : Nat → Prop) (w : World) (most : Int) (P : List (Nm × Qu)) (x : Ending) (w' : World) : Prop :=
  ∃ A' n' c' es', x = .returned (.agg #[.int .i64 most, .slice A' n' c']) ∧ R8 G w' A' n' c' es' ∧ es'.map QE.p = P ∧ Below w.heap.size w w'
section
variable {w : World} {most : Int} {A : Option Addr} {n c : Nat} {es : List QE}
set_option maxRecDepth 100000 in
set_option maxHeartbeats 16000000 in
theorem r8with_any {G : Nat → Prop} (hG : ∀ q, w.heap.size ≤ q → G q) (hs : R8 G w A n c es) (hsrt : SrtP (es.map QE.p)) (hn : n ≤ 1000) (qe : QE) (hq : Sl w 1 qe.A qe.q.l.length qe.c (intsL qe.q.l) ∧ RowG G w qe.A (intsL qe.q.l)) :
    Calls Try.prog 47 #[.agg #[.int .i64 most, .slice A n c], .agg #[.string (bstr qe.nm), .int .i64 qe.q.most, .slice qe.A qe.q.l.length qe.c]] w (With8P G w most (withP (es.map QE.p) most qe.nm qe.q)) := by
  have hln := slQE_len hs.sl
  obtain ⟨PP, hPP⟩ : ∃ PP, PP = es.map QE.p := ⟨_, rfl⟩
  have HPP := Lib.hid hPP
  rw [← hPP] at hsrt ⊢
  clear hPP
  have hb1 := below_alloc1 w (.cells #[.int .i64 most, .slice A n c] 39)
  have o1 := new_own w [.int .i64 most, .slice A n c] 39 2 rfl (by unfold maxLen; omega)
  obtain ⟨w1, hw1⟩ : ∃ w1, w1 = w.alloc (.cells #[.int .i64 most, .slice A n c] 39) := ⟨_, rfl⟩
  have hT1 : (w.alloc (.cells [Value.int .i64 most, .slice A n c].toArray 39)) = w1 := hw1.symm
  rw [hT1] at o1
  rw [← hw1] at hb1
  have hz1 : w1.heap.size = w.heap.size + 1 := by rw [hw1]; simp
  have hb2 := below_alloc1 w1 (.cells #[.string (bstr qe.nm), .int .i64 qe.q.most, .slice qe.A qe.q.l.length qe.c] 53)
  have v0 := box_cells8 w1 [.string (bstr qe.nm), .int .i64 qe.q.most, .slice qe.A qe.q.l.length qe.c] 53 0 _ rfl
  have v1 := box_cells8 w1 [.string (bstr qe.nm), .int .i64 qe.q.most, .slice qe.A qe.q.l.length qe.c] 53 1 _ rfl
  have v2 := box_cells8 w1 [.string (bstr qe.nm), .int .i64 qe.q.most, .slice qe.A qe.q.l.length qe.c] 53 2 _ rfl
  obtain ⟨w2, hw2⟩ : ∃ w2, w2 = w1.alloc (.cells #[.string (bstr qe.nm), .int .i64 qe.q.most, .slice qe.A qe.q.l.length qe.c] 53) := ⟨_, rfl⟩
  have hT2 : (w1.alloc (.cells [Value.string (bstr qe.nm), .int .i64 qe.q.most, .slice qe.A qe.q.l.length qe.c].toArray 53)) = w2 := hw2.symm
  rw [hT2, hz1] at v0 v1 v2
  rw [← hw2] at hb2
  have hz2 : w2.heap.size = w.heap.size + 2 := by rw [hw2]; simp [hz1]
  have hb3 := below_alloc1 w2 (.cells #[.int .i64 0, .slice none 0 0] 39)
  have o3 := new_own w2 [.int .i64 0, .slice none 0 0] 39 2 rfl (by unfold maxLen; omega)
  obtain ⟨w3, hw3⟩ : ∃ w3, w3 = w2.alloc (.cells #[.int .i64 0, .slice none 0 0] 39) := ⟨_, rfl⟩
  have hT3 : (w2.alloc (.cells [Value.int .i64 0, .slice none 0 0].toArray 39)) = w3 := hw3.symm
  rw [hT3, hz2] at o3
  rw [← hw3] at hb3
  have hz3 : w3.heap.size = w.heap.size + 3 := by rw [hw3]; simp [hz2]
  have eW : ((w.alloc (.cells #[.int .i64 most, .slice A n c] 39)).alloc (.cells #[.string (bstr qe.nm), .int .i64 qe.q.most, .slice qe.A qe.q.l.length qe.c] 53)).alloc (.cells #[.int .i64 0, .slice none 0 0] 39) = w3 := by rw [hw3, hw2, hw1]
  have b23 := hb2.trans (hb3.mono hb2.size)
  have O1 := Lib.hid (Own.below o1 b23)
  have V0 := Lib.hid (cell8 hb3 v0)
  have V1 := Lib.hid (cell8 hb3 v1)
  have V2 := Lib.hid (cell8 hb3 v2)
  have O3 := Lib.hid (Own.lower o3 (show w.heap.size ≤ w.heap.size + 2 by omega))
  have HB := Lib.hid (hb1.trans (b23.mono hb1.size))
  have H0 := Lib.hid hs
  have HS := Lib.hid (hs.below HB.out)
  have HQ := Lib.hid hq
  have HG := Lib.hid hG
  have HSRT := Lib.hid hsrt
  have HZ3 := Lib.hid hz3
  obtain ⟨bz, hbz⟩ : ∃ bz, bz = none0 qe.q most := ⟨_, rfl⟩
  have HBZ := Lib.hid hbz
  have k0 := World.ownsRow.cellAt O1.out 0 (by omega)
  have k1 := World.ownsRow.cellAt O1.out 1 (by omega)
  simp only [List.getElem?_cons_zero, List.getElem?_cons_succ] at k0 k1
  have K0 := Lib.hid k0
  have K1 := Lib.hid k1
  clear hb1 hb2 hb3 b23 hw1 hw2 hw3 hT1 hT2 hT3 hz1 hz2 hz3 o1 o3 v0 v1 v2 hs hq hG hsrt hbz k0 k1
  go_enter Try.func47, Try.ntmps47
  go_upto_region 2 with fail
  clear eW
  go_cut [6] (fun s6 wx => s6 = .bool bz ∧ wx = w3)
  case first =>
    have k0 := K0.out
    have v1 := V1.out
    have v2 := V2.out
    by_cases h1 : qe.q.l.length = 0
    · have hl0 : qe.q.l = [] := List.eq_nil_of_length_eq_zero h1
      by_cases h2 : qe.q.most = most
      · obtain rfl : bz = true := by rw [HBZ.out]; unfold none0; simp [hl0, h2]
        have e1 : ((qe.q.l.length : Int) == 0) = true := by simp [h1]
        have e2 : (qe.q.most == most) = true := by simpa using h2
        clear h1 h2 hl0
        go_wp2_with fail
        go_meet
        exact ⟨rfl, rfl⟩
      · obtain rfl : bz = false := by rw [HBZ.out]; unfold none0; simp [h2]
        have e1 : ((qe.q.l.length : Int) == 0) = true := by simp [h1]
        have e2 : (qe.q.most == most) = false := by simpa using h2
        clear h1 h2 hl0
        go_wp2_with fail
        go_meet
        exact ⟨rfl, rfl⟩
    · have hl0 : qe.q.l ≠ [] := fun h => h1 (by rw [h]; rfl)
      obtain rfl : bz = false := by rw [HBZ.out]; unfold none0; simp [hl0]
      have e1 : ((qe.q.l.length : Int) == 0) = false := by simp; omega
      clear hl0
      go_wp2_with fail
      go_meet
      exact ⟨rfl, rfl⟩
  case rest =>
    obtain ⟨rfl, h9⟩ := hcut
    have h9 := h9.symm
    subst h9
    go_wp2_with fail
    go_loopw [5, 6, 7] (fun s5 s6 s7 wx => ∃ (k m : Nat) (LA : Option Addr) (lc : Nat) (ls : List QE) (dn : Bool), k ≤ n ∧ s5 = .slice LA m lc ∧ s6 = .bool dn ∧ s7 = .int .i64 (k : Int) ∧ m ≤ k + 1 ∧ Hid (ls.length = m) ∧ Hid (dn = doneK PP most qe.nm qe.q k) ∧ Hid (Rw8 w3.heap.size wx LA m lc ls) ∧ Hid (ls.map QE.p = outK PP most qe.nm qe.q k) ∧ Hid (∀ e, e ∈ ls → e ∈ es ∨ e = qe) ∧ Hid (Below w3.heap.size w3 wx)) (fun _ _ iv _ => n - (intOf iv).toNat)
    case atStart => exact ⟨0, 0, none, 0, [], bz, by omega, rfl, rfl, rfl, by omega, Lib.hid rfl, Lib.hid (by rw [out_zero.2]; exact HBZ.out), Lib.hid (Rw8.nil _ _), Lib.hid (by rw [out_zero.1]; rfl), Lib.hid (fun e he => by cases he), Lib.hid (Below.refl _ _)⟩
    case round =>
      obtain ⟨k, m, LA, lc, ls, dn, hk, rfl, rfl, rfl, hmk, HM, HD, RL, LS, HMem, HW⟩ := hrel
      have k1 := cell8 HW.out K1.out
      have v0 := cell8 HW.out V0.out
      by_cases g1 : (k : Int) < (n : Int)
      · obtain ⟨e, he⟩ := get_some es k (by omega)
        have hss := HS.out.sl.below HW.out
        obtain ⟨ad, rfl⟩ := slQE_addr hss he
        obtain ⟨y0, y1, y2⟩ := slQE_three hss he
        have hin : (0 : Int) ≤ (k : Int) ∧ (k : Int) < (n : Int) := by omega
        have HE := Lib.hid (show PP[k]? = some (e.nm, e.q) by rw [HPP.out, List.getElem?_map, he]; rfl)
        have Hm := Lib.hid (List.mem_of_getElem? he)
        have HEK := Lib.hid he
        clear hss he
        by_cases hx : e.nm = qe.nm
        · have HO := Lib.hid (out_same (M := most) (nm := qe.nm) (q := qe.q) HE.out hx)
          have hq : (e.nm == qe.nm) = true := by simpa using hx
          clear hx
          go_upto_region 6 with fail
          go_quiet (fail)
          have HW2 := Lib.hid (HW.out.trans (below_drewN (Below.refl _ _) nq |>.mono HW.out.size))
          have RL2 := Lib.hid (RL.out.below (below_drewN (Below.refl _ _) nq))
          clear y0 y1 y2 k1 v0
          generalize wr.drewN nq = w6 at *
          go_wp2_with fail
          go_roundw
          case rel => exact ⟨k + 1, m, LA, lc, ls, dn, by omega, rfl, rfl, by go_num, by omega, HM, Lib.hid (by rw [HO.out.2]; exact HD.out), RL2, Lib.hid (by rw [HO.out.1]; exact LS.out), HMem, HW2⟩
          case measure => simp [intOf]; omega
        · have hq : (e.nm == qe.nm) = false := by simpa using hx
          have HX := Lib.hid hx
          clear hx
          go_upto_region 6 with fail
          go_quiet (fail)
          have HW2 := Lib.hid (HW.out.trans (below_drewN (Below.refl _ _) nq |>.mono HW.out.size))
          have RL2 := Lib.hid (RL.out.below (below_drewN (Below.refl _ _) nq))
          have hb6 := below_drewN (Below.refl wr.heap.size wr) nq
          have Y0 := Lib.hid (cell8 hb6 y0)
          have Y1 := Lib.hid (cell8 hb6 y1)
          have Y2 := Lib.hid (cell8 hb6 y2)
          clear y0 y1 y2 k1 v0 hb6 HW RL
          generalize wr.drewN nq = w6 at *
          by_cases hlt : Op.bytesLess e.nm qe.nm = true
          · have HO := Lib.hid (out_low (M := most) (nm := qe.nm) (q := qe.q) HSRT.out HE.out hlt)
            have hgt : Op.bytesLess qe.nm e.nm = false := bs_asymm hlt
            have HDn := HD
            cases dn
            case false =>
              have k1 := cell8 HW2.out K1.out
              have v0 := cell8 HW2.out V0.out
              have y0 := Y0.out
              have y1 := Y1.out
              have y2 := Y2.out
              go_upto_region 7 with fail
              go_quiet (fail)
              have hb7 := below_drewN (Below.refl w6.heap.size w6) nq
              have HW3 := Lib.hid (HW2.out.trans (hb7.mono HW2.out.size))
              have RL3 := Lib.hid (RL2.out.below hb7)
              have Y0 := Lib.hid (cell8 hb7 Y0.out)
              have Y1 := Lib.hid (cell8 hb7 Y1.out)
              have Y2 := Lib.hid (cell8 hb7 Y2.out)
              clear y0 y1 y2 k1 v0 hb7 HW2 RL2
              generalize w6.drewN nq = w7 at *
              have k1 := cell8 HW3.out K1.out
              have y0 := Y0.out
              have y1 := Y1.out
              have y2 := Y2.out
              have hsl := sl_lit3Q w7 (qeC e) 53 1 rfl
              have hb5 := below_alloc1 w7 (.cells #[.string (bstr e.nm), .int .i64 e.q.most, .slice e.A e.q.l.length e.c] 53)
              have RL5 := Lib.hid (RL3.out.below hb5)
              have HW5 := Lib.hid (HW3.out.trans (hb5.mono HW3.out.size))
              have hs5 := HW5.out.size
              have ha1 := RL5.out.app
              have B5 := Lib.hid hb5
              clear hb5
              go_wp2_with (at_builtin; refine wpList_app _ rfl _ _ 37 rfl w3.heap.size 53 (.agg #[.string ⟨#[]⟩, .int .i64 0, .slice none 0 0]) 3 48 Try.underlying37 infoQ8 rfl (by decide) LA (m) lc (flatQE ls) rfl ha1 (some ⟨w7.heap.size, 0, none⟩) 1 1 _ rfl hsl (oneQ e) (by unfold maxLen; omega) (by omega) hs5 ?_; intro A8 c8 w8 hat)
              have hat : AppTo w3.heap.size 53 3 (w7.alloc (.cells #[.string (bstr e.nm), .int .i64 e.q.most, .slice e.A e.q.l.length e.c] 53)) w8 LA A8 (m + 1) c8 (flatQE (ls ++ [e])) := by rw [← flatQ_app]; exact hat
              have R8 := Lib.hid (RL5.out.grow hat (by simp) hs5)
              have H8 := Lib.hid (HW5.out.trans (Rw8.grownB hat hs5))
              have G8 := Lib.hid hat
              clear hat ha1 hsl
              go_wp2_with fail
              go_roundw
              case rel => exact ⟨k + 1, m + 1, A8, c8, ls ++ [e], false, by omega, rfl, rfl, by go_num, by omega, Lib.hid (by simp [HM.out]), Lib.hid (by rw [HO.out.2]; exact HD.out), R8, Lib.hid (by rw [HO.out.1, List.map_append, LS.out]; rfl), Lib.hid (fun d hd => by
                rcases List.mem_append.1 hd with h | h
                · exact HMem.out d h
                · rw [List.mem_singleton] at h; subst h; exact .inl Hm.out), H8⟩
              case measure => simp [intOf]; omega
            case true =>
              have k1 := cell8 HW2.out K1.out
              have v0 := cell8 HW2.out V0.out
              have y0 := Y0.out
              have y1 := Y1.out
              have y2 := Y2.out
              go_upto_region 7 with fail
              go_quiet (fail)
              have hb7 := below_drewN (Below.refl w6.heap.size w6) nq
              have HW3 := Lib.hid (HW2.out.trans (hb7.mono HW2.out.size))
              have RL3 := Lib.hid (RL2.out.below hb7)
              have Y0 := Lib.hid (cell8 hb7 Y0.out)
              have Y1 := Lib.hid (cell8 hb7 Y1.out)
              have Y2 := Lib.hid (cell8 hb7 Y2.out)
              clear y0 y1 y2 k1 v0 hb7 HW2 RL2
              generalize w6.drewN nq = w7 at *
              have k1 := cell8 HW3.out K1.out
              have y0 := Y0.out
              have y1 := Y1.out
              have y2 := Y2.out
              have hsl := sl_lit3Q w7 (qeC e) 53 1 rfl
              have hb5 := below_alloc1 w7 (.cells #[.string (bstr e.nm), .int .i64 e.q.most, .slice e.A e.q.l.length e.c] 53)
              have RL5 := Lib.hid (RL3.out.below hb5)
              have HW5 := Lib.hid (HW3.out.trans (hb5.mono HW3.out.size))
              have hs5 := HW5.out.size
              have ha1 := RL5.out.app
              have B5 := Lib.hid hb5
              clear hb5
              go_wp2_with (at_builtin; refine wpList_app _ rfl _ _ 37 rfl w3.heap.size 53 (.agg #[.string ⟨#[]⟩, .int .i64 0, .slice none 0 0]) 3 48 Try.underlying37 infoQ8 rfl (by decide) LA (m) lc (flatQE ls) rfl ha1 (some ⟨w7.heap.size, 0, none⟩) 1 1 _ rfl hsl (oneQ e) (by unfold maxLen; omega) (by omega) hs5 ?_; intro A8 c8 w8 hat)
              have hat : AppTo w3.heap.size 53 3 (w7.alloc (.cells #[.string (bstr e.nm), .int .i64 e.q.most, .slice e.A e.q.l.length e.c] 53)) w8 LA A8 (m + 1) c8 (flatQE (ls ++ [e])) := by rw [← flatQ_app]; exact hat
              have R8 := Lib.hid (RL5.out.grow hat (by simp) hs5)
              have H8 := Lib.hid (HW5.out.trans (Rw8.grownB hat hs5))
              have G8 := Lib.hid hat
              clear hat ha1 hsl
              go_wp2_with fail
              go_roundw
              case rel => exact ⟨k + 1, m + 1, A8, c8, ls ++ [e], true, by omega, rfl, rfl, by go_num, by omega, Lib.hid (by simp [HM.out]), Lib.hid (by rw [HO.out.2]; exact HD.out), R8, Lib.hid (by rw [HO.out.1, List.map_append, LS.out]; rfl), Lib.hid (fun d hd => by
                rcases List.mem_append.1 hd with h | h
                · exact HMem.out d h
                · rw [List.mem_singleton] at h; subst h; exact .inl Hm.out), H8⟩
              case measure => simp [intOf]; omega
          · have hgt : Op.bytesLess qe.nm e.nm = true := by
              cases h : Op.bytesLess qe.nm e.nm with
              | true => rfl
              | false => exact absurd (bs_tri (by simpa using hlt) h) HX.out
            have HO := Lib.hid (out_high (M := most) (nm := qe.nm) (q := qe.q) HE.out hgt)
            have hl2 : Op.bytesLess e.nm qe.nm = false := by simpa using hlt
            clear hlt
            cases dn
            case true =>
              have k1 := cell8 HW2.out K1.out
              have v0 := cell8 HW2.out V0.out
              have y0 := Y0.out
              have y1 := Y1.out
              have y2 := Y2.out
              go_upto_region 7 with fail
              go_quiet (fail)
              have hb7 := below_drewN (Below.refl w6.heap.size w6) nq
              have HW3 := Lib.hid (HW2.out.trans (hb7.mono HW2.out.size))
              have RL3 := Lib.hid (RL2.out.below hb7)
              have Y0 := Lib.hid (cell8 hb7 Y0.out)
              have Y1 := Lib.hid (cell8 hb7 Y1.out)
              have Y2 := Lib.hid (cell8 hb7 Y2.out)
              clear y0 y1 y2 k1 v0 hb7 HW2 RL2
              generalize w6.drewN nq = w7 at *
              have k1 := cell8 HW3.out K1.out
              have y0 := Y0.out
              have y1 := Y1.out
              have y2 := Y2.out
              have hsl := sl_lit3Q w7 (qeC e) 53 1 rfl
              have hb5 := below_alloc1 w7 (.cells #[.string (bstr e.nm), .int .i64 e.q.most, .slice e.A e.q.l.length e.c] 53)
              have RL5 := Lib.hid (RL3.out.below hb5)
              have HW5 := Lib.hid (HW3.out.trans (hb5.mono HW3.out.size))
              have hs5 := HW5.out.size
              have ha1 := RL5.out.app
              have B5 := Lib.hid hb5
              clear hb5
              go_wp2_with (at_builtin; refine wpList_app _ rfl _ _ 37 rfl w3.heap.size 53 (.agg #[.string ⟨#[]⟩, .int .i64 0, .slice none 0 0]) 3 48 Try.underlying37 infoQ8 rfl (by decide) LA (m) lc (flatQE ls) rfl ha1 (some ⟨w7.heap.size, 0, none⟩) 1 1 _ rfl hsl (oneQ e) (by unfold maxLen; omega) (by omega) hs5 ?_; intro A8 c8 w8 hat)
              have hat : AppTo w3.heap.size 53 3 (w7.alloc (.cells #[.string (bstr e.nm), .int .i64 e.q.most, .slice e.A e.q.l.length e.c] 53)) w8 LA A8 (m + 1) c8 (flatQE (ls ++ [e])) := by rw [← flatQ_app]; exact hat
              have R8 := Lib.hid (RL5.out.grow hat (by simp) hs5)
              have H8 := Lib.hid (HW5.out.trans (Rw8.grownB hat hs5))
              have G8 := Lib.hid hat
              clear hat ha1 hsl
              go_wp2_with fail
              go_roundw
              case rel => exact ⟨k + 1, m + 1, A8, c8, ls ++ [e], true, by omega, rfl, rfl, by go_num, by omega, Lib.hid (by simp [HM.out]), Lib.hid HO.out.2.symm, R8, Lib.hid (by rw [HO.out.1, if_pos HD.out.symm, List.map_append, LS.out]; rfl), Lib.hid (fun d hd => by
                rcases List.mem_append.1 hd with h | h
                · exact HMem.out d h
                · rw [List.mem_singleton] at h; subst h; exact .inl Hm.out), H8⟩
              case measure => simp [intOf]; omega
            case false =>
              have k1 := cell8 HW2.out K1.out
              have v0 := cell8 HW2.out V0.out
              have y0 := Y0.out
              have y1 := Y1.out
              have y2 := Y2.out
              go_upto_region 7 with fail
              go_quiet (fail)
              have hb7 := below_drewN (Below.refl w6.heap.size w6) nq
              have HW3 := Lib.hid (HW2.out.trans (hb7.mono HW2.out.size))
              have RL3 := Lib.hid (RL2.out.below hb7)
              have Y0 := Lib.hid (cell8 hb7 Y0.out)
              have Y1 := Lib.hid (cell8 hb7 Y1.out)
              have Y2 := Lib.hid (cell8 hb7 Y2.out)
              clear y0 y1 y2 k1 v0 hb7 HW2 RL2
              generalize w6.drewN nq = w7 at *
              have hmk2 : m ≤ k := by
                have h1 := HM.out
                have h2 := congrArg List.length LS.out
                rw [List.length_map] at h2
                have h3 : none0 qe.q most = false := by have h4 := HD.out; unfold doneK at h4; cases hz : none0 qe.q most with | false => rfl | true => rw [hz] at h4; simp at h4
                have h5 : highP qe.nm (PP.take k) = [] := by have h4 := HD.out; unfold doneK at h4; rw [h3] at h4; simpa using h4.symm
                unfold outK at h2
                rw [h3, h5] at h2
                simp only [Bool.false_eq_true, if_false, if_true, List.append_nil] at h2
                have h6 : (lowP qe.nm (PP.take k)).length ≤ (PP.take k).length := List.length_filter_le _ _
                have h7 : (PP.take k).length ≤ k := List.length_take_le _ _
                omega
              have v0 := cell8 HW3.out V0.out
              have v1 := cell8 HW3.out V1.out
              have v2 := cell8 HW3.out V2.out
              have hsl := sl_lit3Q w7 (qeC qe) 53 1 rfl
              have hb5 := below_alloc1 w7 (.cells #[.string (bstr qe.nm), .int .i64 qe.q.most, .slice qe.A qe.q.l.length qe.c] 53)
              have RL5 := Lib.hid (RL3.out.below hb5)
              have HW5 := Lib.hid (HW3.out.trans (hb5.mono HW3.out.size))
              have hs5 := HW5.out.size
              have ha1 := RL5.out.app
              have B5 := Lib.hid hb5
              clear hb5
              go_upto_region 9 with (at_builtin; refine wpList_app _ rfl _ _ 37 rfl w3.heap.size 53 (.agg #[.string ⟨#[]⟩, .int .i64 0, .slice none 0 0]) 3 48 Try.underlying37 infoQ8 rfl (by decide) LA (m) lc (flatQE ls) rfl ha1 (some ⟨w7.heap.size, 0, none⟩) 1 1 _ rfl hsl (oneQ qe) (by unfold maxLen; omega) (by omega) hs5 ?_; intro A8 c8 w8 hat)
              have hat : AppTo w3.heap.size 53 3 (w7.alloc (.cells #[.string (bstr qe.nm), .int .i64 qe.q.most, .slice qe.A qe.q.l.length qe.c] 53)) w8 LA A8 (m + 1) c8 (flatQE (ls ++ [qe])) := by rw [← flatQ_app]; exact hat
              have R8 := Lib.hid (RL5.out.grow hat (by simp) hs5)
              have H8 := Lib.hid (HW5.out.trans (Rw8.grownB hat hs5))
              have G8 := Lib.hid hat
              clear hat ha1 hsl
              clear v0 v1 v2
              have hb8 : Below w7.heap.size w7 w8 ∨ True := .inr trivial
              have hz8 : w3.heap.size ≤ w7.heap.size := HW3.out.size
              have k1 := cell8 H8.out K1.out
              have hs8 := HS.out.sl.below H8.out
              have hek := HEK.out
              obtain ⟨y0, y1, y2⟩ := slQE_three hs8 hek
              clear hb8 hz8 hs8 hek
              have hsl := sl_lit3Q w8 (qeC e) 53 1 rfl
              have hb5 := below_alloc1 w8 (.cells #[.string (bstr e.nm), .int .i64 e.q.most, .slice e.A e.q.l.length e.c] 53)
              have RL5 := Lib.hid (R8.out.below hb5)
              have HW5 := Lib.hid (H8.out.trans (hb5.mono H8.out.size))
              have hs5 := HW5.out.size
              have ha1 := RL5.out.app
              have B5 := Lib.hid hb5
              clear hb5
              go_wp2_with (at_builtin; refine wpList_app _ rfl _ _ 37 rfl w3.heap.size 53 (.agg #[.string ⟨#[]⟩, .int .i64 0, .slice none 0 0]) 3 48 Try.underlying37 infoQ8 rfl (by decide) A8 (m + 1) c8 (flatQE (ls ++ [qe])) rfl ha1 (some ⟨w8.heap.size, 0, none⟩) 1 1 _ rfl hsl (oneQ e) (by unfold maxLen; omega) (by omega) hs5 ?_; intro A9 c9 w9 hat)
              have hat : AppTo w3.heap.size 53 3 (w8.alloc (.cells #[.string (bstr e.nm), .int .i64 e.q.most, .slice e.A e.q.l.length e.c] 53)) w9 A8 A9 (m + 1 + 1) c9 (flatQE ((ls ++ [qe]) ++ [e])) := by rw [← flatQ_app]; exact hat
              have R9 := Lib.hid (RL5.out.grow hat (by simp) hs5)
              have H9 := Lib.hid (HW5.out.trans (Rw8.grownB hat hs5))
              have G9 := Lib.hid hat
              clear hat ha1 hsl
              go_wp2_with fail
              go_roundw
              case rel => exact ⟨k + 1, m + 1 + 1, A9, c9, ls ++ [qe] ++ [e], true, by omega, rfl, rfl, by go_num, by omega, Lib.hid (by simp [HM.out]), Lib.hid HO.out.2.symm, R9, Lib.hid (by rw [HO.out.1, ← HD.out, List.map_append, List.map_append, LS.out]; rfl), Lib.hid (fun d hd => by
                rcases List.mem_append.1 hd with h | h
                · rcases List.mem_append.1 h with h | h
                  · exact HMem.out d h
                  · rw [List.mem_singleton] at h; exact .inr h
                · rw [List.mem_singleton] at h; subst h; exact .inl Hm.out), H9⟩
              case measure => simp [intOf]; omega
      · obtain rfl : k = n := by omega
        have HEnd := Lib.hid (show withP PP most qe.nm qe.q = (if dn = true then outK PP most qe.nm qe.q k else outK PP most qe.nm qe.q k ++ [(qe.nm, qe.q)]) by
          have h1 := out_end (P := PP) (M := most) (nm := qe.nm) (q := qe.q)
          rw [show PP.length = k by rw [HPP.out, List.length_map, hln], ← HD.out] at h1
          exact h1)
        clear k1 v0
        cases dn with
        | true =>
          have OR1 := Own.below O1.out HW.out
          have OR3 := Own.below O3.out HW.out
          have k0 := World.ownsRow.cellAt OR1 0 (by omega)
          have k1 := World.ownsRow.cellAt OR1 1 (by omega)
          simp only [List.getElem?_cons_zero, List.getElem?_cons_succ] at k0 k1
          have f1 := World.ownsRow.frozenAt OR1 1
          have st1 := World.ownsRow.stored OR1 1 (.slice LA (m) lc)
          have OR3b := OR3.apart st1.2 (by omega)
          have i0 := World.ownsRow.frozenAt OR3b 0
          have i1 := World.ownsRow.frozenAt OR3b 1
          have z0 := World.ownsRow.cellAt OR3b 0 (by omega)
          have z1 := World.ownsRow.cellAt OR3b 1 (by omega)
          have k0b := World.ownsRow.cellAt st1.1 0 (by omega)
          have k1b := World.ownsRow.cellAt st1.1 1 (by omega)
          simp only [List.getElem?_cons_zero, List.getElem?_cons_succ, List.set_cons_zero, List.set_cons_succ] at z0 z1 k0b k1b
          have Hst := Lib.hid (stored28 OR3b (.int .i64 most) (.slice LA (m) lc))
          have HS1 := Lib.hid st1.2
          clear OR1 OR3 OR3b st1
          go_wp2_with fail
          refine bodyPost_ret (results8_0 rfl _ _ _ ⟨w.heap.size + 2, 0, none⟩ rfl _ (load8R Hst.out.1)) rfl ?_
          have hw3 := HZ3.out
          have hbW : Below w.heap.size w wr := HB.out.trans (HW.out.mono HB.out.size)
          have hb1 := wrote8 hbW HS1.out (Nat.le_refl _)
          have hb2 := wrote8 hb1 Hst.out.2 (by omega)
          have hkeep : ∀ (A : Option Addr) (nn cc : Nat) (l : List Int), Sl w 1 A nn cc (intsL l) ∧ RowG G w A (intsL l) → Sl _ 1 A nn cc (intsL l) ∧ RowG G _ A (intsL l) := fun A nn cc l h =>
            ⟨sl_past (sl_past (N := w.heap.size) ((h.1.below HB.out).below HW.out) (fun hne a ha => (h.2 hne a ha).1) hbW.size HS1.out (Nat.le_refl _)) (fun hne a ha => (h.2 hne a ha).1) hb1.size Hst.out.2 (by omega), h.2.size hb2.size⟩
          have hLA : ∀ a : Addr, LA = some a → w3.heap.size ≤ a.block ∧ a.block < wr.heap.size := RL.out.lies
          refine ⟨LA, _, lc, ls, rfl, ⟨?_, fun _ a ha => ⟨Nat.lt_of_lt_of_le (hLA a ha).2 (Nat.le_trans HS1.out.size Hst.out.2.size), HG.out _ (by have := (hLA a ha).1; omega)⟩, fun e he => ?_⟩, (by rw [LS.out, HEnd.out]; rfl), hb2⟩
          · exact sl_same (sl_same RL.out.app.sl (fun a ha => HS1.out.block _ (hLA a ha).2 (fun e => by have h1 := (hLA a ha).1; have h2 := Option.some.inj e; omega))) (fun a ha => Hst.out.2.block _ (Nat.lt_of_lt_of_le (hLA a ha).2 HS1.out.size) (fun e => by have h1 := (hLA a ha).1; have h2 := Option.some.inj e; omega))
          · rcases HMem.out e he with h | h
            · exact hkeep _ _ _ _ (H0.out.ok e h)
            · rw [h]; exact hkeep _ _ _ _ HQ.out
        | false =>
          have k1 := cell8 HW.out K1.out
          have v0 := cell8 HW.out V0.out
          have v1 := cell8 HW.out V1.out
          have v2 := cell8 HW.out V2.out
          have hsl := sl_lit3Q wr (qeC qe) 53 1 rfl
          have hb5 := below_alloc1 wr (.cells #[.string (bstr qe.nm), .int .i64 qe.q.most, .slice qe.A qe.q.l.length qe.c] 53)
          have RL5 := Lib.hid (RL.out.below hb5)
          have HW5 := Lib.hid (HW.out.trans (hb5.mono HW.out.size))
          have hs5 := HW5.out.size
          have ha1 := RL5.out.app
          have B5 := Lib.hid hb5
          clear hb5
          go_upto_region 13 with (at_builtin; refine wpList_app _ rfl _ _ 37 rfl w3.heap.size 53 (.agg #[.string ⟨#[]⟩, .int .i64 0, .slice none 0 0]) 3 48 Try.underlying37 infoQ8 rfl (by decide) LA (m) lc (flatQE ls) rfl ha1 (some ⟨wr.heap.size, 0, none⟩) 1 1 _ rfl hsl (oneQ qe) (by unfold maxLen; omega) (by omega) hs5 ?_; intro A8 c8 w8 hat)
          have hat : AppTo w3.heap.size 53 3 (wr.alloc (.cells #[.string (bstr qe.nm), .int .i64 qe.q.most, .slice qe.A qe.q.l.length qe.c] 53)) w8 LA A8 (m + 1) c8 (flatQE (ls ++ [qe])) := by rw [← flatQ_app]; exact hat
          have R8 := Lib.hid (RL5.out.grow hat (by simp) hs5)
          have H8 := Lib.hid (HW5.out.trans (Rw8.grownB hat hs5))
          have G8 := Lib.hid hat
          clear hat ha1 hsl
          clear v0 v1 v2 k1
          have HMem8 := Lib.hid (show ∀ e, e ∈ ls ++ [qe] → e ∈ es ∨ e = qe from fun e he => by
            rcases List.mem_append.1 he with h | h
            · exact HMem.out e h
            · rw [List.mem_singleton] at h; exact .inr h)
          have OR1 := Own.below O1.out H8.out
          have OR3 := Own.below O3.out H8.out
          have k0 := World.ownsRow.cellAt OR1 0 (by omega)
          have k1 := World.ownsRow.cellAt OR1 1 (by omega)
          simp only [List.getElem?_cons_zero, List.getElem?_cons_succ] at k0 k1
          have f1 := World.ownsRow.frozenAt OR1 1
          have st1 := World.ownsRow.stored OR1 1 (.slice A8 (m + 1) c8)
          have OR3b := OR3.apart st1.2 (by omega)
          have i0 := World.ownsRow.frozenAt OR3b 0
          have i1 := World.ownsRow.frozenAt OR3b 1
          have z0 := World.ownsRow.cellAt OR3b 0 (by omega)
          have z1 := World.ownsRow.cellAt OR3b 1 (by omega)
          have k0b := World.ownsRow.cellAt st1.1 0 (by omega)
          have k1b := World.ownsRow.cellAt st1.1 1 (by omega)
          simp only [List.getElem?_cons_zero, List.getElem?_cons_succ, List.set_cons_zero, List.set_cons_succ] at z0 z1 k0b k1b
          have Hst := Lib.hid (stored28 OR3b (.int .i64 most) (.slice A8 (m + 1) c8))
          have HS1 := Lib.hid st1.2
          clear OR1 OR3 OR3b st1
          go_wp2_with fail
          refine bodyPost_ret (results8_0 rfl _ _ _ ⟨w.heap.size + 2, 0, none⟩ rfl _ (load8R Hst.out.1)) rfl ?_
          have hw3 := HZ3.out
          have hbW : Below w.heap.size w w8 := HB.out.trans (H8.out.mono HB.out.size)
          have hb1 := wrote8 hbW HS1.out (Nat.le_refl _)
          have hb2 := wrote8 hb1 Hst.out.2 (by omega)
          have hkeep : ∀ (A : Option Addr) (nn cc : Nat) (l : List Int), Sl w 1 A nn cc (intsL l) ∧ RowG G w A (intsL l) → Sl _ 1 A nn cc (intsL l) ∧ RowG G _ A (intsL l) := fun A nn cc l h =>
            ⟨sl_past (sl_past (N := w.heap.size) ((h.1.below HB.out).below H8.out) (fun hne a ha => (h.2 hne a ha).1) hbW.size HS1.out (Nat.le_refl _)) (fun hne a ha => (h.2 hne a ha).1) hb1.size Hst.out.2 (by omega), h.2.size hb2.size⟩
          have hLA : ∀ a : Addr, A8 = some a → w3.heap.size ≤ a.block ∧ a.block < w8.heap.size := R8.out.lies
          refine ⟨A8, _, c8, (ls ++ [qe]), rfl, ⟨?_, fun _ a ha => ⟨Nat.lt_of_lt_of_le (hLA a ha).2 (Nat.le_trans HS1.out.size Hst.out.2.size), HG.out _ (by have := (hLA a ha).1; omega)⟩, fun e he => ?_⟩, (by rw [List.map_append, LS.out, HEnd.out]; rfl), hb2⟩
          · exact sl_same (sl_same R8.out.app.sl (fun a ha => HS1.out.block _ (hLA a ha).2 (fun e => by have h1 := (hLA a ha).1; have h2 := Option.some.inj e; omega))) (fun a ha => Hst.out.2.block _ (Nat.lt_of_lt_of_le (hLA a ha).2 HS1.out.size) (fun e => by have h1 := (hLA a ha).1; have h2 := Option.some.inj e; omega))
          · rcases HMem8.out e he with h | h
            · exact hkeep _ _ _ _ (H0.out.ok e h)
            · rw [h]; exact hkeep _ _ _ _ HQ.out
end
end Go.Proofs.Ytcidifmikcnkcaa
