import Derived.Test.YtemegkapmgcffaaDlD
/- DiskFuse: the walk. -/
namespace Go.Proofs.Ytemegkapmgcffaa
open Go.RowKit
set_option linter.unusedSimpArgs false
set_option linter.unusedVariables false

theorem down_dsk2 {W w : World} {pa pb : Nat} {Da Db : Dk} {b : Bool} (h : Dsk2 W w pa Da pb Db) (hb : Da.dark = b) : Calls Try.prog 52 #[.pointer (some ⟨pa, 0, none⟩)] w fun x w' => x = .returned (.bool b) ∧ w = w' := by
  obtain ⟨Fa, Fb, h1, h2, h3, h4⟩ := h
  subst hb
  exact Down_any h1
theorem list_dsk2 {W w : World} {pa pb : Nat} {Da Db : Dk} (h : Dsk2 W w pa Da pb Db) : Calls Try.prog 31 #[.pointer (some ⟨pa, 0, none⟩)] w fun x w' => ∃ A c, x = .returned (.slice A Da.fs.length c) ∧ Below w.heap.size w w' ∧ Dsk2 W w' pa Da pb Db := by
  have h0 := h
  obtain ⟨Fa, Fb, h1, h2, h3, h4⟩ := h
  exact (List_any h1).mono fun x w' ⟨A, c, k1, k2, k3⟩ => ⟨A, c, k1, k3, h0.below k3⟩
theorem own_kept {B n c : Nat} {t : TypeId} {size : Nat} {w w' : World} {A : Option Addr} {cs : List Value} {G : Nat → Prop} (h : Own B t size w A n c cs) (hk : ∀ q, G q → w'.heap[q]? = w.heap[q]?) (hG : ∀ q, B ≤ q → q < w.heap.size → G q) : Own B t size w' A n c cs :=
  own_same h (fun a ha => hk _ (hG _ (own_lt h a ha).1 (own_lt h a ha).2))
def withO (d : Ded) (o : Int) : Ded := { d with op := o }
theorem OkDed.withO {w : World} {d : Ded} (h : OkDed w d) {o : Int} (hl : 0 ≤ o ∧ o ≤ 255) : OkDed w (withO d o) := ⟨hl, h.a, h.t2, h.b, h.n, h.ks, h.ts⟩
theorem str_toF (l : List UInt8) (k : Nat) (hk : k ≤ l.length) (w : World) : (Instr.slice 9 (.string (bstr l)) none (some (.int .i64 (k : Int))) none).run Try.prog w = .ok (.string (bstr (l.take k))) w := by
  have hs : (bstr l).size = l.length := rfl
  rw [run_slice_string_to_if (h := Try.underlying9), if_pos ⟨by omega, by rw [hs]; omega⟩]
  congr 2
  apply ByteArray.ext
  rw [ByteArray.data_extract]
  simp [bstr, List.extract_toArray]
theorem fuse_crash {D : Dk} : crashD (darkD (withF D 0)) [] [] = { D with fuse := -1, dark := false, fs := crashF D.fs [] [] } := rfl
theorem told_nilF (i : Nat) : toldI [] i = 0 := by unfold toldI; simp
set_option maxRecDepth 100000 in
set_option maxHeartbeats 16000000 in
theorem fuse_any {W : World} {A : Option Addr} {n c : Nat} {es : List Ded} {nf : Int} (s : Sl W 7 A n c (flatD es)) (ok : ∀ e, e ∈ es → OkDed W e) (hn : n ≤ 9223372036854775807) (hnf : 0 ≤ nf ∧ nf ≤ 255) :
    Calls Try.prog 17 #[.slice A n c, .int .u8 nf] W fun x w' => x = .returned (.bool true) ∧ Below W.heap.size W w' := by
  have hln := slD_len s
  have S := Lib.hid s
  have OK := Lib.hid ok
  have Hln := Lib.hid hln
  clear s ok hln
  obtain ⟨f0, hf0⟩ : ∃ f0, f0 = nf % 41 := ⟨_, rfl⟩
  have hf0b : 0 ≤ f0 ∧ f0 ≤ 40 := by omega
  have hw41 : nf % 41 = f0 := hf0.symm
  clear hf0
  go_enter Try.func17, Try.ntmps17
  go_wp2_with fail
  refine (new_dsk (room := 1048576) (Below.refl _ _) (by decide)).mono ?_; rintro x w0 ⟨pa, rfl, h0⟩
  go_wp2_with fail
  refine (new_dsk2 (room := 1048576) h0 (by decide)).mono ?_; rintro x w1 ⟨pb, rfl, h1⟩
  have H1 := Lib.hid h1
  clear h0 h1
  go_wp2_with fail
  refine (H1.out.swap.step (P := fun x => x = .returned (.tuple #[])) (fun F hF => (Arm_any hF f0 (by omega)).mono (fun x w' ⟨k1, k2, k3⟩ => ⟨k1, F, k2, k3⟩))).mono ?_
  rintro x w2 ⟨rfl, d2⟩
  have harm : armD (newD 1048576) f0 = withF (newD 1048576) f0 := by
    have : max 0 f0 = f0 := by omega
    simp [armD, newD, withF, this]
  rw [harm] at d2
  have D2 := Lib.hid d2.swap
  clear d2 harm H1
  go_wp2_with fail
  go_loopw [9, 10] (fun s9 s10 wx => ∃ (i : Nat) (f : Int) (D : Dk), i ≤ n ∧ i ≤ 40 ∧ s10 = .int .i64 (i : Int) ∧ 0 ≤ f ∧ f ≤ 40 ∧ s9 = .int .i64 f ∧ Hid (D.fuse = -1 ∧ D.dark = false) ∧ Hid (Dsk2 W wx pa D pb (withF D f))) (fun _ iv _ => 40 - (intOf iv).toNat)
  case atStart => exact ⟨0, f0, newD 1048576, by omega, by omega, rfl, hf0b.1, hf0b.2, rfl, Lib.hid ⟨rfl, rfl⟩, D2⟩
  case round =>
    obtain ⟨i, f, D, hi, hi40, rfl, hfa, hfb, rfl, HP, HD⟩ := hrel
    by_cases hgo : (i : Int) < (n : Int) ∧ (i : Int) < 40
    · obtain ⟨hgo1, hgo2⟩ := hgo
      obtain ⟨W9, hW9⟩ : ∃ W9, W9 = wr := ⟨_, rfl⟩
      subst hW9
      obtain ⟨d, hd⟩ := get_some es i (by rw [Hln.out]; omega)
      have hs := S.out.below HD.out.bel
      obtain ⟨ad, rfl⟩ := slD_addr hs hd
      obtain ⟨y0, y1, y2, y3, y4, y5, y6⟩ := slD_seven hs hd
      have hin : (0 : Int) ≤ (i : Int) ∧ (i : Int) < (n : Int) := by omega
      have Hd := Lib.hid (OK.out d (List.mem_of_getElem? hd))
      have hop := Hd.out.op
      clear hs hd
      have ho1 := new_own W9 (dedC d) 70 7 rfl (by unfold maxLen; omega)
      have hb1 := below_alloc1 W9 (.cells (dedC d).toArray 70)
      obtain ⟨w2, hw2⟩ : ∃ w2, w2 = W9.alloc (.cells (dedC d).toArray 70) := ⟨_, rfl⟩
      rw [← hw2] at ho1 hb1
      have HW2 := Lib.hid (show w2 = W9.alloc (.cells #[.int .u8 d.op, .string (bstr d.a), .string (bstr d.t2), .slice d.bA d.b.length d.bc, .int .i64 d.n, .slice d.kA d.ks.length d.kc, .slice d.tA d.ts.length d.tc] 70) from hw2)
      have k0 := World.ownsRow.cellAt ho1 0 (by omega)
      have z0 := World.ownsRow.frozenAt ho1 0
      simp only [dedC, List.getElem?_cons_zero] at k0
      obtain ⟨o, hoo⟩ : ∃ o, o = d.op % 7 := ⟨_, rfl⟩
      have ho7 : 0 ≤ o ∧ o ≤ 6 := by omega
      have st := World.ownsRow.stored ho1 0 (.int .u8 o)
      obtain ⟨w3, hw3⟩ : ∃ w3, w3 = w2.setCell ⟨W9.heap.size, 0, none⟩ (.int .u8 o) := ⟨_, rfl⟩
      rw [← hw3] at st
      have HW3 := Lib.hid hw3
      obtain ⟨d', hd'⟩ : ∃ d', d' = withO d o := ⟨_, rfl⟩
      have HO3 := Lib.hid (show Own W9.heap.size 70 1 w3 (some ⟨W9.heap.size, 0, none⟩) 7 7 (dedC d') by rw [hd']; exact st.1)
      have HB3 := Lib.hid (hb1.grown st.2 hb1.size (fun q hq => by cases hq; exact Nat.le_refl _))
      have Hd' := Lib.hid (show OkDed W d' by rw [hd']; exact Hd.out.withO (by omega))
      have hop' : d'.op = o := by rw [hd']; rfl
      have Hop' := Lib.hid hop'
      have hwo : d.op % 7 = o := hoo.symm
      clear hw2 hw3 ho1 hb1 st hd' hop' hoo
      go_upto_region 11 with fail
      rw [← HW2.out]
      clear HW2 y0 y1 y2 y3 y4 y5 y6
      go_upto_region 12 with fail
      rw [← HW3.out]
      clear HW3 k0 z0 Hd hop hwo
      have e0 := World.ownsRow.cellAt HO3.out 0 (by omega)
      have e1 := World.ownsRow.cellAt HO3.out 1 (by omega)
      have e2 := World.ownsRow.cellAt HO3.out 2 (by omega)
      have e3 := World.ownsRow.cellAt HO3.out 3 (by omega)
      have e4 := World.ownsRow.cellAt HO3.out 4 (by omega)
      have e5 := World.ownsRow.cellAt HO3.out 5 (by omega)
      have e6 := World.ownsRow.cellAt HO3.out 6 (by omega)
      simp only [dedC, List.getElem?_cons_zero, List.getElem?_cons_succ] at e0 e1 e2 e3 e4 e5 e6
      go_wp2_with fail
      refine (large_any d' Hd'.out w3).mono ?_; rintro x w4 ⟨rfl, hb4⟩
      have HO4 := Lib.hid (HO3.out.below hb4)
      have HB4 := Lib.hid (HB3.out.trans (hb4.mono HB3.out.size))
      clear e0 e1 e2 e3 e4 e5 e6 hb4 HO3 HB3
      cases hlg : largeB d' with
      | true =>
        have HS := Lib.hid (HD.out.below HB4.out)
        clear hlg
        go_wp2_with fail
        go_roundw
        case rel => exact ⟨i + 1, f, D, by omega, by omega, by go_num, hfa, hfb, rfl, HP, HS⟩
        case measure => simp [intOf]; omega
      | false =>
        have Hlg := Lib.hid hlg
        clear hlg
        go_wp2_with fail
        have hdk : (withF D f).dark = false := HP.out.2
        refine (down_dsk2 (HD.out.below HB4.out).swap hdk).mono ?_; rintro x w5 ⟨rfl, rfl⟩
        go_wp2_with fail
        refine (snap_dsk2 (HD.out.below HB4.out).swap).mono ?_; rintro x w5 ⟨A1, a1, A2, a2, A3, a3, rfl, r1, r2, r3, hb5, d5⟩
        have hfs : (withF D f).fs = D.fs := rfl
        rw [hfs] at r1 r2 r3
        rw [hfs]
        obtain ⟨n0, hn0⟩ : ∃ n0, n0 = D.fs.length := ⟨_, rfl⟩
        rw [← hn0] at r1 r2 r3
        rw [← hn0]
        have Hn0 := Lib.hid hn0
        have hn200 : n0 ≤ 200 := by rw [hn0]; exact HD.out.good.few
        have HB5 := Lib.hid (HB4.out.trans (hb5.mono HB4.out.size))
        have DP := Lib.hid (HD.out.part HB5.out)
        have HO5 := Lib.hid (HO4.out.below hb5)
        have R1 := Lib.hid (r1.lower (base' := W9.heap.size) HB4.out.size)
        have R2 := Lib.hid (r2.lower (base' := W9.heap.size) HB4.out.size)
        have R3 := Lib.hid (r3.lower (base' := W9.heap.size) HB4.out.size)
        clear hfs hn0 r1 r2 r3 hb5 d5 HO4 HB4 hdk
        have e0 := World.ownsRow.cellAt HO5.out 0 (by omega)
        have e1 := World.ownsRow.cellAt HO5.out 1 (by omega)
        have e2 := World.ownsRow.cellAt HO5.out 2 (by omega)
        have e3 := World.ownsRow.cellAt HO5.out 3 (by omega)
        have e4 := World.ownsRow.cellAt HO5.out 4 (by omega)
        have e5 := World.ownsRow.cellAt HO5.out 5 (by omega)
        have e6 := World.ownsRow.cellAt HO5.out 6 (by omega)
        simp only [dedC, List.getElem?_cons_zero, List.getElem?_cons_succ] at e0 e1 e2 e3 e4 e5 e6
        go_wp2_with fail
        refine (DP.out.step (P := fun x => x = .returned (.int .i64 (doesD D d').1)) (fun F hF => does_any hF d' Hd'.out (Hd'.out.below DP.out.bel) (Nat.le_refl _) Hlg.out)).mono ?_
        rintro x w6 ⟨rfl, p6, k6⟩
        have HO6 := Lib.hid (own_kept HO5.out k6 (fun q h1 h2 => ⟨h1, h2⟩))
        have Q1 := Lib.hid (own_kept R1.out k6 (fun q h1 h2 => ⟨h1, h2⟩))
        have Q2 := Lib.hid (own_kept R2.out k6 (fun q h1 h2 => ⟨h1, h2⟩))
        have Q3 := Lib.hid (own_kept R3.out k6 (fun q h1 h2 => ⟨h1, h2⟩))
        have P6 := Lib.hid p6
        have HG6 : ∀ {t s n c : Nat} {A : Option Addr} {cs : List Value}, Own W9.heap.size t s w5 A n c cs → ∀ a, A = some a → W9.heap.size ≤ a.block ∧ a.block < w5.heap.size := fun h a ha => own_lt h a ha
        have HGa := Lib.hid (And.intro (HG6 R1.out) (And.intro (HG6 R2.out) (HG6 R3.out)))
        clear e0 e1 e2 e3 e4 e5 e6 p6 k6 HG6 HO5 R1 R2 R3 DP
        have e0 := World.ownsRow.cellAt HO6.out 0 (by omega)
        have e1 := World.ownsRow.cellAt HO6.out 1 (by omega)
        have e2 := World.ownsRow.cellAt HO6.out 2 (by omega)
        have e3 := World.ownsRow.cellAt HO6.out 3 (by omega)
        have e4 := World.ownsRow.cellAt HO6.out 4 (by omega)
        have e5 := World.ownsRow.cellAt HO6.out 5 (by omega)
        have e6 := World.ownsRow.cellAt HO6.out 6 (by omega)
        simp only [dedC, List.getElem?_cons_zero, List.getElem?_cons_succ] at e0 e1 e2 e3 e4 e5 e6
        go_wp2_with fail
        refine (P6.out.swap.step (P := fun x => x = .returned (.int .i64 (doesD (withF D f) d').1)) (fun F hF => does_any hF d' Hd'.out (Hd'.out.below P6.out.bel) (Nat.le_refl _) Hlg.out)).mono ?_
        rintro x w7 ⟨rfl, p7, k7⟩
        have T1 := Lib.hid (own_same Q1.out (fun a ha => k7 _ (HGa.out.1 a ha)))
        have T2 := Lib.hid (own_same Q2.out (fun a ha => k7 _ (HGa.out.2.1 a ha)))
        have T3 := Lib.hid (own_same Q3.out (fun a ha => k7 _ (HGa.out.2.2 a ha)))
        have P7 := Lib.hid p7.swap
        clear e0 e1 e2 e3 e4 e5 e6 p7 k7 HO6 Q1 Q2 Q3 P6
        have HF := Lib.hid (fused_does HP.out.1 HP.out.2 hfa d' (by rw [Hop'.out]; exact ho7))
        obtain ⟨r, hr⟩ : ∃ r, r = doesD D d' := ⟨_, rfl⟩
        obtain ⟨r', hr'⟩ : ∃ r', r' = doesD (withF D f) d' := ⟨_, rfl⟩
        rw [← hr, ← hr'] at HF P7
        rw [← hr, ← hr']
        clear hr hr'
        by_cases hr0 : r.1 = 0
        · by_cases hf : f = 0
          · have hout := HF.out.out hr0 hf
            subst hout
            subst hf
            clear HF
            generalize hDb : darkD (withF D 0) = Db at *
            have Hdb := Lib.hid hDb.symm
            clear hDb
            have hbfs : Db.fs = D.fs := by rw [Hdb.out]; rfl
            have Hbfs := Lib.hid hbfs
            have hbdk : Db.dark = true := by rw [Hdb.out]; rfl
            have Hbdk := Lib.hid hbdk
            have hr0b : (r.1 == 0) = true := by simpa using hr0
            clear hbfs hbdk hr0
            go_wp2_with fail
            refine (down_dsk2 P7.out.swap.two Hbdk.out).mono ?_; rintro x w8 ⟨rfl, rfl⟩
            go_wp2_with fail
            refine (list_dsk2 P7.out.swap.two).mono ?_; rintro x w8 ⟨A4, a4, rfl, hb8, d8⟩
            rw [Hbfs.out, ← Hn0.out]
            have P8 := Lib.hid (P7.out.below hb8)
            have U1 := Lib.hid (T1.out.below hb8)
            have U2 := Lib.hid (T2.out.below hb8)
            have U3 := Lib.hid (T3.out.below hb8)
            clear T1 T2 T3 P7 hb8 d8
            go_wp2_with fail
            go_loopw [108] (fun s108 wx => ∃ k : Nat, k ≤ n0 ∧ s108 = .int .i64 (k : Int) ∧ Hid (Below w8.heap.size w8 wx)) (fun iv _ => n0 - (intOf iv).toNat)
            case atStart => exact ⟨0, by omega, rfl, Lib.hid (Below.refl _ _)⟩
            case round =>
              obtain ⟨k, hk, rfl, HB⟩ := hrel
              by_cases h1 : (k : Int) < (n0 : Int)
              · obtain ⟨f, hf⟩ := get_some D.fs k (by rw [← Hn0.out]; omega)
                have hso : SrtF D.fs := HD.out.good.srt
                have Hlk := Lib.hid (show lookF Db.fs f.nm = f by rw [Hbfs.out]; exact look_own (D := D) hso hf)
                have v1 : (nmV D.fs)[k]? = some (.string (bstr f.nm)) := by unfold nmV; rw [List.getElem?_map, hf]; rfl
                have v2 : (txV (withF D 0))[k]? = some (.string (bstr f.b)) := by
                  unfold txV; rw [List.getElem?_map]; show (D.fs[k]?).map _ = _; rw [hf]; simp only [Option.map_some]
                  rw [read_own (D := withF D 0) hso HP.out.2 hf]
                have v3 : (sfV (withF D 0))[k]? = some (.int .i64 (f.safe : Int)) := by
                  unfold sfV; rw [List.getElem?_map]; show (D.fs[k]?).map _ = _; rw [hf]; simp only [Option.map_some]
                  rw [look_own (D := withF D 0) hso hf]
                obtain ⟨g1, hA1, q1⟩ := (U1.out.below HB.out).sl.cells k _ v1
                obtain ⟨g2, hA2, q2⟩ := (U2.out.below HB.out).sl.cells k _ v2
                obtain ⟨g3, hA3, q3⟩ := (U3.out.below HB.out).sl.cells k _ v3
                have DB := Lib.hid (P8.out.swap.two.below HB.out)
                have hin : (0 : Int) ≤ (k : Int) ∧ (k : Int) < (n0 : Int) := by omega
                have hbb : (bstr f.b).size = f.b.length := rfl
                subst hA1 hA2 hA3
                clear v1 v2 v3 hso hf
                go_upto_region 27 with fail
                --@region 17 27 fuse27.spec
                refine wp_region_run (by kernel_rfl) (by kernel_rfl) ?_
                apply RunL.pure
                · intro vs w hb hd; clear hd; simp only [List.take, putL, Act.put, List.setIfInBounds_toArray, List.set_cons_zero, List.set_cons_succ]; unfold StepOK; go_simp; exact ⟨Below.refl _ _, isV_mk _ _⟩
                apply RunL.pure
                · intro vs w hb hd; clear hd; simp only [List.take, putL, Act.put, List.setIfInBounds_toArray, List.set_cons_zero, List.set_cons_succ]; unfold StepOK; go_simp; exact ⟨Below.refl _ _, isV_mk _ _⟩
                refine RunL.such (isV (.int .i64 (f.b.length : Int))) (isV_stable _) ?_ ?_
                · intro vs w hb hd; have d0 : isV _ (vs 0) w := hd 0 (by decide) (by kernel_rfl); unfold isV at d0; have d1 : isV _ (vs 1) w := hd 1 (by decide) (by kernel_rfl); unfold isV at d1; clear hd; have hd := DB.out.below hb; simp only [List.take, putL, Act.put, List.setIfInBounds_toArray, List.set_cons_zero, List.set_cons_succ]; unfold StepOK; go_simp; exact ⟨Below.refl _ _, such_of_bool ((size_dsk2 (nm := f.nm) hd (by rfl)).mono (fun e w' ⟨h1, h2, _⟩ => ⟨by rw [h1, Hlk.out], h2⟩))⟩
                apply RunL.pure
                · intro vs w hb hd; clear hd; simp only [List.take, putL, Act.put, List.setIfInBounds_toArray, List.set_cons_zero, List.set_cons_succ]; unfold StepOK; go_simp; exact ⟨Below.refl _ _, isV_mk _ _⟩
                apply RunL.pure
                · intro vs w hb hd; clear hd; simp only [List.take, putL, Act.put, List.setIfInBounds_toArray, List.set_cons_zero, List.set_cons_succ]; unfold StepOK; go_simp; exact ⟨Below.refl _ _, isV_mk _ _⟩
                apply RunL.pure
                · intro vs w hb hd; have d3 : isV _ (vs 3) w := hd 3 (by decide) (by kernel_rfl); unfold isV at d3; have d4 : isV _ (vs 4) w := hd 4 (by decide) (by kernel_rfl); unfold isV at d4; clear hd; simp only [List.take, putL, Act.put, List.setIfInBounds_toArray, List.set_cons_zero, List.set_cons_succ]; unfold StepOK; go_simp; exact ⟨Below.refl _ _, isV_mk _ _⟩
                apply RunL.pure
                · intro vs w hb hd; have d5 : isV _ (vs 5) w := hd 5 (by decide) (by kernel_rfl); unfold isV at d5; clear hd; have hx1 := cellB hb q2; simp only [List.take, putL, Act.put, List.setIfInBounds_toArray, List.set_cons_zero, List.set_cons_succ]; unfold StepOK; go_simp; exact ⟨Below.refl _ _, isV_mk _ _⟩
                apply RunL.pure
                · intro vs w hb hd; have d6 : isV _ (vs 6) w := hd 6 (by decide) (by kernel_rfl); unfold isV at d6; clear hd; simp only [List.take, putL, Act.put, List.setIfInBounds_toArray, List.set_cons_zero, List.set_cons_succ]; unfold StepOK; go_simp; exact ⟨Below.refl _ _, isV_mk _ _⟩
                apply RunL.pure
                · intro vs w hb hd; have d2 := hd 2 (by decide) (by kernel_rfl); simp only [TR, Nat.reduceAdd, Nat.reduceSub, List.getD_cons_zero, List.getD_cons_succ] at d2; have d7 : isV _ (vs 7) w := hd 7 (by decide) (by kernel_rfl); unfold isV at d7; clear hd; unfold isV at d2; simp only [List.take, putL, Act.put, List.setIfInBounds_toArray, List.set_cons_zero, List.set_cons_succ]; unfold StepOK; go_simp; exact ⟨Below.refl _ _, isV_mk _ _⟩
                apply RunL.pure
                · intro vs w hb hd; have d2 := hd 2 (by decide) (by kernel_rfl); simp only [TR, Nat.reduceAdd, Nat.reduceSub, List.getD_cons_zero, List.getD_cons_succ] at d2; have d8 : isV _ (vs 8) w := hd 8 (by decide) (by kernel_rfl); unfold isV at d8; clear hd; simp only [List.take, putL, Act.put, List.setIfInBounds_toArray, List.set_cons_zero, List.set_cons_succ]; unfold StepOK; go_simp; exact ⟨Below.refl _ _, isV_mk _ _⟩
                apply RunL.pure
                · intro vs w hb hd; have d9 : isV _ (vs 9) w := hd 9 (by decide) (by kernel_rfl); unfold isV at d9; clear hd; simp only [List.take, putL, Act.put, List.setIfInBounds_toArray, List.set_cons_zero, List.set_cons_succ]; unfold StepOK; go_simp; exact ⟨Below.refl _ _, isV_mk _ _⟩
                apply RunL.pure
                · intro vs w hb hd; have d9 : isV _ (vs 9) w := hd 9 (by decide) (by kernel_rfl); unfold isV at d9; clear hd; simp only [List.take, putL, Act.put, List.setIfInBounds_toArray, List.set_cons_zero, List.set_cons_succ]; unfold StepOK; go_simp; exact ⟨Below.refl _ _, isV_mk _ _⟩
                refine RunL.such (isV (.int .i64 (f.safe : Int))) (isV_stable _) ?_ ?_
                · intro vs w hb hd; have d9 : isV _ (vs 9) w := hd 9 (by decide) (by kernel_rfl); unfold isV at d9; have d10 : isV _ (vs 10) w := hd 10 (by decide) (by kernel_rfl); unfold isV at d10; have d11 : isV _ (vs 11) w := hd 11 (by decide) (by kernel_rfl); unfold isV at d11; clear hd; have hd := DB.out.below hb; simp only [List.take, putL, Act.put, List.setIfInBounds_toArray, List.set_cons_zero, List.set_cons_succ]; unfold StepOK; go_simp; exact ⟨Below.refl _ _, such_of_bool ((synced_dsk2 (nm := f.nm) hd (by rfl)).mono (fun e w' ⟨h1, h2, _⟩ => ⟨by rw [h1, Hlk.out], h2⟩))⟩
                apply RunL.pure
                · intro vs w hb hd; have d9 : isV _ (vs 9) w := hd 9 (by decide) (by kernel_rfl); unfold isV at d9; clear hd; simp only [List.take, putL, Act.put, List.setIfInBounds_toArray, List.set_cons_zero, List.set_cons_succ]; unfold StepOK; go_simp; exact ⟨Below.refl _ _, isV_mk _ _⟩
                apply RunL.pure
                · intro vs w hb hd; have d9 : isV _ (vs 9) w := hd 9 (by decide) (by kernel_rfl); unfold isV at d9; clear hd; simp only [List.take, putL, Act.put, List.setIfInBounds_toArray, List.set_cons_zero, List.set_cons_succ]; unfold StepOK; go_simp; exact ⟨Below.refl _ _, isV_mk _ _⟩
                apply RunL.pure
                · intro vs w hb hd; have d9 : isV _ (vs 9) w := hd 9 (by decide) (by kernel_rfl); unfold isV at d9; have d13 : isV _ (vs 13) w := hd 13 (by decide) (by kernel_rfl); unfold isV at d13; have d14 : isV _ (vs 14) w := hd 14 (by decide) (by kernel_rfl); unfold isV at d14; clear hd; simp only [List.take, putL, Act.put, List.setIfInBounds_toArray, List.set_cons_zero, List.set_cons_succ]; unfold StepOK; go_simp; exact ⟨Below.refl _ _, isV_mk _ _⟩
                apply RunL.pure
                · intro vs w hb hd; have d9 : isV _ (vs 9) w := hd 9 (by decide) (by kernel_rfl); unfold isV at d9; have d15 : isV _ (vs 15) w := hd 15 (by decide) (by kernel_rfl); unfold isV at d15; clear hd; have hx1 := cellB hb q3; simp only [List.take, putL, Act.put, List.setIfInBounds_toArray, List.set_cons_zero, List.set_cons_succ]; unfold StepOK; go_simp; exact ⟨Below.refl _ _, isV_mk _ _⟩
                apply RunL.pure
                · intro vs w hb hd; have d9 : isV _ (vs 9) w := hd 9 (by decide) (by kernel_rfl); unfold isV at d9; have d12 := hd 12 (by decide) (by kernel_rfl); simp only [TR, Nat.reduceAdd, Nat.reduceSub, List.getD_cons_zero, List.getD_cons_succ] at d12; have d16 : isV _ (vs 16) w := hd 16 (by decide) (by kernel_rfl); unfold isV at d16; clear hd; unfold isV at d12; simp only [List.take, putL, Act.put, List.setIfInBounds_toArray, List.set_cons_zero, List.set_cons_succ]; unfold StepOK; go_simp; exact ⟨Below.refl _ _, isV_mk _ _⟩
                apply RunL.pure
                · intro vs w hb hd; have d9 : isV _ (vs 9) w := hd 9 (by decide) (by kernel_rfl); unfold isV at d9; have d17 : isV _ (vs 17) w := hd 17 (by decide) (by kernel_rfl); unfold isV at d17; clear hd; simp only [List.take, putL, Act.put, List.setIfInBounds_toArray, List.set_cons_zero, List.set_cons_succ]; unfold StepOK; go_simp; exact ⟨Below.refl _ _, isV_mk _ _⟩
                intro vs w1 hb hd
                have e0 : isV _ (vs 0) w1 := hd 0 (by decide)
                have e1 : isV _ (vs 1) w1 := hd 1 (by decide)
                have e2 := hd 2 (by decide); simp only [TR, Nat.reduceAdd, Nat.reduceSub, List.getD_cons_zero, List.getD_cons_succ] at e2
                have e3 : isV _ (vs 3) w1 := hd 3 (by decide)
                have e4 : isV _ (vs 4) w1 := hd 4 (by decide)
                have e5 : isV _ (vs 5) w1 := hd 5 (by decide)
                have e6 : isV _ (vs 6) w1 := hd 6 (by decide)
                have e7 : isV _ (vs 7) w1 := hd 7 (by decide)
                have e8 : isV _ (vs 8) w1 := hd 8 (by decide)
                have e9 : isV _ (vs 9) w1 := hd 9 (by decide)
                have e10 : isV _ (vs 10) w1 := hd 10 (by decide)
                have e11 : isV _ (vs 11) w1 := hd 11 (by decide)
                have e12 := hd 12 (by decide); simp only [TR, Nat.reduceAdd, Nat.reduceSub, List.getD_cons_zero, List.getD_cons_succ] at e12
                have e13 : isV _ (vs 13) w1 := hd 13 (by decide)
                have e14 : isV _ (vs 14) w1 := hd 14 (by decide)
                have e15 : isV _ (vs 15) w1 := hd 15 (by decide)
                have e16 : isV _ (vs 16) w1 := hd 16 (by decide)
                have e17 : isV _ (vs 17) w1 := hd 17 (by decide)
                have e18 : isV _ (vs 18) w1 := hd 18 (by decide)
                clear hd
                unfold isV at e0 e1 e3 e4 e5 e6 e7 e8 e9 e10 e11 e13 e14 e15 e16 e17 e18
                simp only [putL, Act.put, List.setIfInBounds_toArray, List.set_cons_zero, List.set_cons_succ, e0, e1, e3, e4, e5, e6, e7, e8, e9, e10, e11, e13, e14, e15, e16, e17, e18]
                clear e0 e1 e3 e4 e5 e6 e7 e8 e9 e10 e11 e13 e14 e15 e16 e17 e18
                --@end
                have HB2 := Lib.hid (HB.out.trans (hb.mono HB.out.size))
                clear hb q1 q2 q3 DB HB
                go_wp2_with fail
                go_roundw
                case rel => exact ⟨k + 1, by omega, by go_num, HB2⟩
                case measure => simp [intOf]; omega
              · obtain rfl : n0 = k := by omega
                have P9 := Lib.hid (P8.out.below HB.out)
                have V2 := Lib.hid (U2.out.below HB.out)
                have V3 := Lib.hid (U3.out.below HB.out)
                clear U1 U2 U3 P8 HB
                go_wp2_with fail
                refine (P9.out.swap.step (P := fun x => x = .returned (.tuple #[])) (fun F hF => Crash_any hF (ks := []) (ts := []) (sl_nilI _) (sl_nilI _) (fun a ha => by cases ha) (fun a ha => by cases ha) (by omega) (by omega) (by simp) (by simp))).mono ?_
                rintro x wc ⟨rfl, pc, kc⟩
                have X2 := Lib.hid (own_same V2.out (fun a ha => kc _ (HGa.out.2.1 a ha)))
                have X3 := Lib.hid (own_same V3.out (fun a ha => kc _ (HGa.out.2.2 a ha)))
                obtain ⟨Dc, hDc⟩ : ∃ Dc, Dc = crashD Db [] [] := ⟨_, rfl⟩
                rw [← hDc] at pc
                have Hcfs := Lib.hid (show Dc.fs = crashF D.fs [] [] by rw [hDc, ← Hbfs.out]; rfl)
                have Hcdk := Lib.hid (show Dc.dark = false by rw [hDc]; rfl)
                have Hcl := Lib.hid (show Dc.fs.length = n0 by rw [Hcfs.out, crash_len, Hn0.out])
                have PC := Lib.hid pc.two
                clear hDc pc kc V2 V3 P9 HGa
                go_wp2_with fail
                refine (snap_dsk2 PC.out).mono ?_; rintro x wd ⟨A7, a7, A8, a8, A9, a9, rfl, o7, o8, o9, hbd, dd⟩
                rw [Hcl.out] at o7 o8 o9
                rw [Hcl.out]
                have hsoc := Lib.hid PC.out.good.srt
                have Y2 := Lib.hid (X2.out.below hbd)
                have Y3 := Lib.hid (X3.out.below hbd)
                have Y8 := Lib.hid o8
                have DD := Lib.hid dd
                clear o7 o8 o9 hbd dd PC X2 X3
                go_wp2_with fail
                go_loopw [143] (fun s143 wx => ∃ k : Nat, k ≤ n0 ∧ s143 = .int .i64 (k : Int) ∧ Hid (Below wd.heap.size wd wx)) (fun iv _ => n0 - (intOf iv).toNat)
                case atStart => exact ⟨0, by omega, rfl, Lib.hid (Below.refl _ _)⟩
                case round =>
                  obtain ⟨k, hk, rfl, HB⟩ := hrel
                  by_cases h1 : (k : Int) < (n0 : Int)
                  · obtain ⟨f, hf⟩ := get_some D.fs k (by rw [← Hn0.out]; omega)
                    have hso : SrtF D.fs := HD.out.good.srt
                    have hsf := HD.out.good.safe f (List.mem_of_getElem? hf)
                    have hcf : Dc.fs[k]? = some ⟨f.nm, f.b.take f.safe, f.safe⟩ := by
                      rw [Hcfs.out]
                      have := crash_get (ks := []) (ts := []) hf
                      rw [told_nilF, left_none f hsf] at this
                      exact this
                    have v2 : (txV (withF D 0))[k]? = some (.string (bstr f.b)) := by
                      unfold txV; rw [List.getElem?_map]; show (D.fs[k]?).map _ = _; rw [hf]; simp only [Option.map_some]
                      rw [read_own (D := withF D 0) hso HP.out.2 hf]
                    have v3 : (sfV (withF D 0))[k]? = some (.int .i64 (f.safe : Int)) := by
                      unfold sfV; rw [List.getElem?_map]; show (D.fs[k]?).map _ = _; rw [hf]; simp only [Option.map_some]
                      rw [look_own (D := withF D 0) hso hf]
                    have v8 : (txV Dc)[k]? = some (.string (bstr (f.b.take f.safe))) := by
                      unfold txV; rw [List.getElem?_map, hcf]; simp only [Option.map_some]
                      have := read_own hsoc.out Hcdk.out hcf
                      simp only at this
                      rw [this]
                    obtain ⟨g2, hA2, q2⟩ := (Y2.out.below HB.out).sl.cells k _ v2
                    obtain ⟨g3, hA3, q3⟩ := (Y3.out.below HB.out).sl.cells k _ v3
                    obtain ⟨g8, hA8, q8⟩ := (Y8.out.below HB.out).sl.cells k _ v8
                    have hin : (0 : Int) ≤ (k : Int) ∧ (k : Int) < (n0 : Int) := by omega
                    have hbb : (bstr f.b).size = f.b.length := rfl
                    have hst := str_toF f.b f.safe hsf
                    subst hA2 hA3 hA8
                    clear v2 v3 v8 hso hf hcf
                    go_upto_region 35 with fail
                    go_quiet (fail)
                    have HB2 := Lib.hid (HB.out.trans (below_drewN (Below.refl _ _) nq |>.mono HB.out.size))
                    clear q2 q3 q8 HB
                    generalize wr.drewN nq = w6 at *
                    go_wp2_with fail
                    go_roundw
                    case rel => exact ⟨k + 1, by omega, by go_num, HB2⟩
                    case measure => simp [intOf]; omega
                  · obtain rfl : n0 = k := by omega
                    have DF := Lib.hid (DD.out.below HB.out)
                    clear Y2 Y3 Y8 DD HB
                    go_wp2_with fail
                    refine (down_dsk2 DF.out Hcdk.out).mono ?_; rintro x we ⟨rfl, rfl⟩
                    go_wp2_with fail
                    refine (awake2_any _).mono ?_; rintro x wl ⟨rfl, hbl⟩
                    go_wp2_with fail
                    go_ret
                    exact ⟨rfl, DF.out.bel.trans (hbl.mono DF.out.bel.size)⟩
          · have hon := HF.out.on hr0 (by omega)
            subst hon
            have hfz : (f == 0) = false := by simpa using hf
            have hr0b : (r.1 == 0) = true := by simpa using hr0
            have DB := Lib.hid P7.out.two
            have HP2 := Lib.hid (And.intro HF.out.fuse HF.out.dark)
            clear P7 T1 T2 T3 HF HGa HP
            go_wp2_with fail
            refine (alike_any DB.out ⟨rfl, HP2.out.2, HP2.out.2⟩).mono ?_; rintro x w8 ⟨rfl, hb8⟩
            have DB8 := Lib.hid (DB.out.below hb8)
            clear hb8
            go_wp2_with fail
            go_roundw
            case rel => exact ⟨i + 1, f - 1, r.2, by omega, by omega, by go_num, by omega, by omega, rfl, HP2, DB8⟩
            case measure => simp [intOf]; omega
        · obtain ⟨h1, h2⟩ := HF.out.no hr0
          have DB := Lib.hid (show Dsk2 W w7 pa D pb (withF D f) by have := P7.out.two; rw [h1, h2] at this; exact this)
          have hrb : (r.1 == 0) = false := by simpa using hr0
          have hr1 : r'.1 = r.1 := by rw [h2]
          rw [hr1]
          clear hr0 h1 h2 hr1 HF P7 T1 T2 T3 HGa
          go_wp2_with fail
          go_roundw
          case rel => exact ⟨i + 1, f, D, by omega, by omega, by go_num, hfa, hfb, rfl, HP, DB⟩
          case measure => simp [intOf]; omega
    · by_cases h1 : (i : Int) < (n : Int)
      · have h2 : ¬ (i : Int) < 40 := fun h => hgo ⟨h1, h⟩
        clear hgo
        have HDf := HD
        have HPf := HP
        go_wp2_with fail
        refine (alike_any HDf.out ⟨rfl, HPf.out.2, HPf.out.2⟩).mono ?_; rintro x w3 ⟨rfl, hb3⟩
        have HB3 := Lib.hid (HDf.out.bel.trans (hb3.mono HDf.out.bel.size))
        clear hb3
        go_wp2_with fail
        refine (awake2_any _).mono ?_; rintro x wl ⟨rfl, hbl⟩
        go_wp2_with fail
        go_ret
        exact ⟨rfl, HB3.out.trans (hbl.mono HB3.out.size)⟩
      · clear hgo
        have HDf := HD
        have HPf := HP
        go_wp2_with fail
        refine (alike_any HDf.out ⟨rfl, HPf.out.2, HPf.out.2⟩).mono ?_; rintro x w3 ⟨rfl, hb3⟩
        have HB3 := Lib.hid (HDf.out.bel.trans (hb3.mono HDf.out.bel.size))
        clear hb3
        go_wp2_with fail
        refine (awake2_any _).mono ?_; rintro x wl ⟨rfl, hbl⟩
        go_wp2_with fail
        go_ret
        exact ⟨rfl, HB3.out.trans (hbl.mono HB3.out.size)⟩
end Go.Proofs.Ytemegkapmgcffaa
