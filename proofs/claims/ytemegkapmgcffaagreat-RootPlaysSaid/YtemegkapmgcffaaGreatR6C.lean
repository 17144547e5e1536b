import Derived.Test.YtemegkapmgcffaaGreatR6A
import Derived.Test.YtemegkapmgcffaaGreatR6B
import Derived.Test.YtemegkapmgcffaaGreatR2I
import Derived.Test.YtemegkapmgcffaaGreatR2K
import Derived.Test.YtemegkapmgcffaaGreatR2F
import Derived.Test.YtemegkapmgcffaaGreatPureGood
/- The document's Write of a root (printed by wip/gen/gr6c.py). -/
namespace Go.Proofs.YtemegkapmgcffaaGreat
open Go.RowKit
set_option linter.unusedSimpArgs false
set_option linter.unusedVariables false

theorem readRD_mk {D : Dk} {es : List FE} (h : es.map FE.f = D.fs) : readRD ⟨D.room, D.fuse, D.dark, es.map FE.f⟩ = readRD D := by rw [h]
theorem dk_mk6 {D : Dk} {es : List FE} (h : es.map FE.f = D.fs) : (⟨D.room, D.fuse, D.dark, es.map FE.f⟩ : Dk) = D := by rw [h]
theorem Good.fewE {D : Dk} {es : List FE} (h : Good D) (he : es.map FE.f = D.fs) : es.length ≤ 200 := by have := h.few; rw [← he, List.length_map] at this; exact this
theorem Good.srtE {D : Dk} {es : List FE} (h : Good D) (he : es.map FE.f = D.fs) : SrtF (es.map FE.f) := by rw [he]; exact h.srt
theorem Good.eachE {D : Dk} {es : List FE} (h : Good D) (he : es.map FE.f = D.fs) (hr : D.room ≤ 300000) : ∀ e, e ∈ es → e.f.b.length ≤ 300000 := fun e hm => by
  have := h.each (f := e.f) (by rw [← he]; exact List.mem_map_of_mem hm)
  omega
theorem bytesR_short (s b : Int) (x : List UInt8) (h : x.length ≤ 1000) : (bytesR s b x).1.length ≤ 2000 := by
  unfold bytesR
  split
  · rename_i h1
    have h2 := (rightR_iff _ _ _).1 h1
    have g1 := uv_len_ten s.toNat (by omega)
    have g2 := uv_len_ten b.toNat (by omega)
    have g3 := uv_len_ten x.length (by omega)
    have hb : (rootB s.toNat b.toNat x).length ≤ 1030 := by
      unfold rootB
      simp only [List.length_append]
      omega
    have g4 := uv_len_ten (rootB s.toNat b.toNat x).length (by omega)
    simp only [frm_len]
    omega
  · simp
theorem findI_ge (fs : List Fl) (nm : Nm) (h : thereF fs nm = true) : 0 ≤ findI fs nm := by unfold findI; rw [if_pos h]; omega
theorem findI_lt (fs : List Fl) (nm : Nm) (h : thereF fs nm = false) : findI fs nm = -1 := by unfold findI; rw [if_neg (by rw [h]; simp)]
theorem read_there {D : Dk} (hd : D.dark = false) (nm : Nm) : (readD D nm).2 = 0 ↔ thereF D.fs nm = true := by
  unfold readD
  rw [if_neg (by rw [hd]; simp)]
  by_cases h : thereF D.fs nm = true
  · rw [if_pos h]; simp [h]
  · rw [if_neg h]; simp [h]
def R6P (G : Nat → Prop) (w : World) (XA : Option Addr) (R : Dk × Rt × Int) (y : Ending) (w' : World) : Prop :=
  ∃ A' n' c' es' BA bc, y = .returned (.tuple #[.agg #[.int .i64 R.1.room, .slice A' n' c', .int .i64 R.1.fuse, .bool R.1.dark], .agg #[.int .i64 R.2.1.s, .int .i64 R.2.1.b, .slice BA R.2.1.x.length bc], .int .i64 R.2.2]) ∧ R2 G w' A' n' c' es' ∧ es'.map FE.f = R.1.fs ∧ Sl w' 1 BA R.2.1.x.length bc (bytesV R.2.1.x) ∧ (R.2.1.x ≠ [] → BA = XA) ∧ Below w.heap.size w w'
section
variable {w : World} {A : Option Addr} {n c : Nat} {es : List FE} {D : Dk} {XA : Option Addr} {xc : Nat}
set_option maxRecDepth 100000 in
set_option maxHeartbeats 16000000 in
theorem r6Write_any {G : Nat → Prop} (hG : ∀ q, w.heap.size ≤ q → G q) (hs : R2 G w A n c es) (heq : es.map FE.f = D.fs) (hgd : Good D) (hroom : D.room ≤ 300000) (s0 b : Int) (xn : Nat) (x : List UInt8) (hx : Sl w 1 XA xn xc (bytesV x)) (hxl : x.length ≤ 1000) {R : Dk × Rt × Int} (hR : writeF D b x = R) :
    Calls Tryz.prog 7 #[.agg #[.int .i64 D.room, .slice A n c, .int .i64 D.fuse, .bool D.dark], .agg #[.int .i64 s0, .int .i64 b, .slice XA xn xc]] w (R6P G w XA R) := by
  obtain rfl : x.length = xn := hx.blen.symm ▸ rfl
  have hb1 := below_alloc1 w (.cells #[.int .i64 D.room, .slice A n c, .int .i64 D.fuse, .bool D.dark] 30)
  have o1 := new_own w [.int .i64 D.room, .slice A n c, .int .i64 D.fuse, .bool D.dark] 30 4 rfl (by unfold maxLen; omega)
  obtain ⟨w1, hw1⟩ : ∃ w1, w1 = w.alloc (.cells #[.int .i64 D.room, .slice A n c, .int .i64 D.fuse, .bool D.dark] 30) := ⟨_, rfl⟩
  have hT1 : (w.alloc (.cells [.int .i64 D.room, .slice A n c, .int .i64 D.fuse, .bool D.dark].toArray 30)) = w1 := hw1.symm
  rw [hT1] at o1
  rw [← hw1] at hb1
  have hz1 : w1.heap.size = w.heap.size + 1 := by rw [hw1]; simp
  have hb2 := below_alloc1 w1 (.cells #[.int .i64 s0, .int .i64 b, .slice XA x.length xc] 36)
  have o2 := new_own w1 [.int .i64 s0, .int .i64 b, .slice XA x.length xc] 36 3 rfl (by unfold maxLen; omega)
  obtain ⟨w2, hw2⟩ : ∃ w2, w2 = w1.alloc (.cells #[.int .i64 s0, .int .i64 b, .slice XA x.length xc] 36) := ⟨_, rfl⟩
  have hT2 : (w1.alloc (.cells [.int .i64 s0, .int .i64 b, .slice XA x.length xc].toArray 36)) = w2 := hw2.symm
  rw [hT2, hz1] at o2
  rw [← hw2] at hb2
  have hz2 : w2.heap.size = w.heap.size + 2 := by rw [hw2]; simp [hz1]
  have hb3 := below_alloc1 w2 (.cells #[.int .i64 0, .slice none 0 0, .int .i64 0, .bool false] 30)
  have o3 := new_own w2 [.int .i64 0, .slice none 0 0, .int .i64 0, .bool false] 30 4 rfl (by unfold maxLen; omega)
  obtain ⟨w3, hw3⟩ : ∃ w3, w3 = w2.alloc (.cells #[.int .i64 0, .slice none 0 0, .int .i64 0, .bool false] 30) := ⟨_, rfl⟩
  have hT3 : (w2.alloc (.cells [.int .i64 0, .slice none 0 0, .int .i64 0, .bool false].toArray 30)) = w3 := hw3.symm
  rw [hT3, hz2] at o3
  rw [← hw3] at hb3
  have hz3 : w3.heap.size = w.heap.size + 3 := by rw [hw3]; simp [hz2]
  have hb4 := below_alloc1 w3 (.cells #[.int .i64 0, .int .i64 0, .slice none 0 0] 36)
  have o4 := new_own w3 [.int .i64 0, .int .i64 0, .slice none 0 0] 36 3 rfl (by unfold maxLen; omega)
  obtain ⟨w4, hw4⟩ : ∃ w4, w4 = w3.alloc (.cells #[.int .i64 0, .int .i64 0, .slice none 0 0] 36) := ⟨_, rfl⟩
  have hT4 : (w3.alloc (.cells [.int .i64 0, .int .i64 0, .slice none 0 0].toArray 36)) = w4 := hw4.symm
  rw [hT4, hz3] at o4
  rw [← hw4] at hb4
  have eW : (((w.alloc (.cells #[.int .i64 D.room, .slice A n c, .int .i64 D.fuse, .bool D.dark] 30)).alloc (.cells #[.int .i64 s0, .int .i64 b, .slice XA x.length xc] 36)).alloc (.cells #[.int .i64 0, .slice none 0 0, .int .i64 0, .bool false] 30)).alloc (.cells #[.int .i64 0, .int .i64 0, .slice none 0 0] 36) = w4 := by rw [hw4, hw3, hw2, hw1]
  have b34 := hb3.trans (hb4.mono hb3.size)
  have b24 := hb2.trans (b34.mono hb2.size)
  have b14 := hb1.trans (b24.mono hb1.size)
  have H4 := Lib.hid (show W6 G w w4 D A n c es s0 b XA x.length xc x from
    ⟨Own.below o1 b24, Own.lower (Own.below o2 b34) (by omega), Own.lower (Own.below o3 hb4) (by omega), Own.lower o4 (by omega), hs.below b14, heq, hx.below b14, b14⟩)
  have HG := Lib.hid hG
  have HGd := Lib.hid hgd
  have HRm := Lib.hid hroom
  have HR := Lib.hid hR
  have HXL := Lib.hid hxl
  clear hb1 hb2 hb3 hb4 b34 b24 b14 o1 o2 o3 o4 hw1 hw2 hw3 hw4 hT1 hT2 hT3 hT4 hz1 hz2 hz3 hs hgd hroom hR hG heq hx hxl
  have hrg := (acc_rng D 2)
  obtain ⟨q, hq⟩ : ∃ q, q = rootD D := ⟨_, rfl⟩
  rw [show accR D 2 = q from hq.symm] at hrg
  go_enter Tryz.func7, Tryz.ntmps7
  go_upto_region 1 with fail
  clear eW
  obtain ⟨k0, k1, k2, k3⟩ := H4.out.cd
  have hrc := r6Read_any (room := D.room) (fuse := D.fuse) (dark := D.dark) H4.out.r2.sl (fun e he => (H4.out.r2.ok e he).1) (HGd.out.srtE H4.out.eq) (by have h1 := HGd.out.fewE H4.out.eq; have h2 := slFE_len H4.out.r2.sl; omega) (fun e he => by have := HGd.out.eachE H4.out.eq HRm.out e he; omega) (readRD_mk H4.out.eq)
  cases hdk : D.dark with
  | true =>
    have hrd : readRD D = (rt0, false, 15) := by unfold readRD; rw [if_pos hdk]
    have HE := Lib.hid (show R = (D, rt0, 15) by rw [← HR.out]; unfold writeF; rw [if_pos hdk])
    rw [hrd, hdk] at hrc
    rw [hdk] at k3
    clear hq hrd
    go_wp2_with fail
    refine hrc.mono ?_; rintro e w5 ⟨A5, c5, rfl, s5, b5⟩
    simp only [rtV, rt0]
    have H6 := Lib.hid ((H4.out.below b5).below (below_alloc1 w5 (.cells #[.int .i64 0, .int .i64 0, .slice A5 0 c5] 36)))
    clear hrc s5 b5 k0 k1 k2 k3 hdk
    go_upto_region 2 with fail
    obtain ⟨w6, hw6⟩ : ∃ w6, w6 = w5.alloc (.cells #[.int .i64 0, .int .i64 0, .slice A5 0 c5] 36) := ⟨_, rfl⟩
    rw [← hw6] at H6 ⊢
    clear hw6
    have ho := H6.out.out 0 0 none 0 0
    obtain ⟨z0, z1, z2, z3⟩ := cells4 H6.out.rd
    obtain ⟨y0, y1, y2⟩ := cells3 H6.out.rr
    obtain ⟨u0, u1, u2⟩ := cells3 ho.1
    have f0 := World.ownsRow.frozenAt H6.out.rd 0
    have f1 := World.ownsRow.frozenAt H6.out.rd 1
    have f2 := World.ownsRow.frozenAt H6.out.rd 2
    have f3 := World.ownsRow.frozenAt H6.out.rd 3
    have g0 := World.ownsRow.frozenAt H6.out.rr 0
    have g1 := World.ownsRow.frozenAt H6.out.rr 1
    have g2 := World.ownsRow.frozenAt H6.out.rr 2
    have i0 := World.ownsRow.frozenAt ho.1 0
    have i1 := World.ownsRow.frozenAt ho.1 1
    have i2 := World.ownsRow.frozenAt ho.1 2
    have Ho := Lib.hid ho.2
    clear ho
    unfold set4 at i0 i1 i2 u0 u1 u2
    obtain ⟨k0, k1, k2, k3⟩ := H6.out.cd
    go_wp2_with fail
    refine bodyPost_ret (results_cell22 rfl _ _ _ ⟨w.heap.size + 2, 0, none⟩ ⟨w.heap.size + 3, 0, none⟩ rfl rfl _ _ (load_own2D Ho.out.1) (load_ownR Ho.out.2.1)) rfl ?_
    rw [HE.out]
    exact ⟨_, _, _, _, none, 0, rfl, Ho.out.2.2.1, H6.out.eq, Sl.nil _ _, fun h => absurd rfl h, Ho.out.2.2.2.2⟩
  | false =>
    have hrd : readRD D = (q, decide (0 < q.s), 0) := by unfold readRD; rw [if_neg (by rw [hdk]; simp), ← hq]
    obtain ⟨N, eN⟩ : ∃ N : Nat, q.s + 1 = (N : Int) := ⟨(q.s + 1).toNat, by omega⟩
    have HN0 := Lib.hid (show 1 ≤ N ∧ N ≤ 1099511627777 by omega)
    have hws : IntKind.i64.wrap (q.s + 1) = (N : Int) := by rw [eN, IntKind.wrap_i64]; omega
    obtain ⟨bs, e5, hby⟩ : ∃ bs e5, bytesR (N : Int) b x = (bs, e5) := ⟨_, _, rfl⟩
    have HBY := Lib.hid hby
    have HBL := Lib.hid (show bs.length ≤ 2000 by have := bytesR_short (N : Int) b x HXL.out; rw [hby] at this; exact this)
    have HD := Lib.hid hdk
    have HW := Lib.hid (show R = if e5 ≠ 0 then (D, rt0, e5) else if (readD D rnw).2 = 0 then (if (removeD D rnw).1 ≠ 0 then ((removeD D rnw).2, rt0, (removeD D rnw).1) else putD (removeD D rnw).2 (N : Int) b x bs) else putD D (N : Int) b x bs by
      rw [← HR.out]
      unfold writeF
      rw [if_neg (by rw [hdk]; simp), ← hq, eN, hby])
    rw [hrd, hdk] at hrc
    rw [hdk] at k3
    clear hq hrd eN hby HR
    go_wp2_with fail
    refine hrc.mono ?_; rintro e w5 ⟨A5, c5, rfl, s5, b5⟩
    simp only [rtV]
    have H6 := Lib.hid ((H4.out.below b5).below (below_alloc1 w5 (.cells #[.int .i64 q.s, .int .i64 q.b, .slice A5 q.x.length c5] 36)))
    have q0 := box_cellsR w5 [.int .i64 q.s, .int .i64 q.b, .slice A5 q.x.length c5] 36 0 _ rfl
    clear hrc s5 b5 k0 k1 k2 k3 hdk
    go_upto_region 2 with fail
    obtain ⟨w6, hw6⟩ : ∃ w6, w6 = w5.alloc (.cells #[.int .i64 q.s, .int .i64 q.b, .slice A5 q.x.length c5] 36) := ⟨_, rfl⟩
    have hT6 : (w5.alloc (.cells [.int .i64 q.s, .int .i64 q.b, .slice A5 q.x.length c5].toArray 36)) = w6 := hw6.symm
    rw [hT6] at q0
    rw [← hw6] at H6 ⊢
    clear hw6 hT6
    have H7 := Lib.hid (H6.out.serial (N : Int))
    have f0 := World.ownsRow.frozenAt H6.out.br 0
    obtain ⟨r0, _, _⟩ := H6.out.cr
    go_upto_region 5 with fail
    obtain ⟨w7, hw7⟩ : ∃ w7, w7 = w6.setCell ⟨w.heap.size + 1, 0, none⟩ (.int .i64 (N : Int)) := ⟨_, rfl⟩
    rw [← hw7] at H7 ⊢
    clear hw7 f0 r0 q0 hws H6
    obtain ⟨r0, r1, r2⟩ := H7.out.cr
    have hbc := refBytes_any (N : Int) b XA x.length xc x w7 H7.out.sx
    rw [HBY.out] at hbc
    go_wp2_with fail
    refine hbc.mono ?_; rintro e w8 ⟨BA, bc, rfl, s8, b8⟩
    have H8 := Lib.hid (H7.out.below b8)
    have HB8 := Lib.hid s8
    clear hbc s8 b8 r0 r1 r2 H7
    by_cases he5 : e5 = 0
    · subst he5
      have HW2 := Lib.hid (show R = if (readD D rnw).2 = 0 then (if (removeD D rnw).1 ≠ 0 then ((removeD D rnw).2, rt0, (removeD D rnw).1) else putD (removeD D rnw).2 (N : Int) b x bs) else putD D (N : Int) b x bs by rw [HW.out, if_neg (by simp)])
      have hfc := r2Find_any (room := D.room) (fuse := D.fuse) (dark := D.dark) H8.out.r2.sl (HGd.out.srtE H8.out.eq) (by have h1 := HGd.out.fewE H8.out.eq; have h2 := slFE_len H8.out.r2.sl; omega) rnw
      rw [H8.out.eq] at hfc
      obtain ⟨k0, k1, k2, k3⟩ := H8.out.cd
      rw [show bstr rnw = { data := #[114, 111, 111, 116, 46, 110, 101, 119] } from rfl] at hfc
      clear HW
      go_wp2_with fail
      refine hfc.mono ?_; rintro e w9 ⟨rfl, b9⟩
      have H9 := Lib.hid (H8.out.below b9)
      have HB9 := Lib.hid (HB8.out.below b9)
      clear hfc b9 k0 k1 k2 k3 H8 HB8
      cases ht : thereF D.fs rnw with
      | true =>
        have hfg := findI_ge D.fs rnw ht
        have HW2b := Lib.hid (show R = if (removeD D rnw).1 ≠ 0 then ((removeD D rnw).2, rt0, (removeD D rnw).1) else putD (removeD D rnw).2 (N : Int) b x bs by rw [HW2.out, if_pos ((read_there HD.out rnw).2 ht)])
        obtain ⟨fi, hfi⟩ : ∃ fi, fi = findI D.fs rnw := ⟨_, rfl⟩
        rw [← hfi] at hfg ⊢
        have hmc := r2Remove_any (room := D.room) (fuse := D.fuse) (dark := D.dark) (G := G) (fun q hq => HG.out q (Nat.le_trans H9.out.bel.size hq)) H9.out.r2 (HGd.out.srtE H9.out.eq) (by have h1 := HGd.out.fewE H9.out.eq; have h2 := slFE_len H9.out.r2.sl; omega) (by have := HGd.out.fuse; omega) rnw
        rw [dk_mk6 H9.out.eq] at hmc
        rw [show bstr rnw = { data := #[114, 111, 111, 116, 46, 110, 101, 119] } from rfl] at hmc
        obtain ⟨e9, D2, ha9⟩ : ∃ e9 D2, removeD D rnw = (e9, D2) := ⟨_, _, rfl⟩
        rw [ha9] at hmc HW2b
        have HGn := Lib.hid (show Good D2 by have := HGd.out.remove rnw; rw [ha9] at this; exact this)
        have HRn := Lib.hid (show D2.room ≤ 300000 by have := of_room D rnw (fun _ => 0) (fun i f => D.fs.eraseIdx i); rw [show ofD D rnw (fun _ => 0) (fun i f => D.fs.eraseIdx i) = removeD D rnw from rfl, ha9] at this; rw [show D2.room = D.room from this]; exact HRm.out)
        obtain ⟨k0, k1, k2, k3⟩ := H9.out.cd
        clear ht hfi HW2 ha9
        go_wp2_with fail
        refine hmc.mono ?_; rintro y wg ⟨A2, n2, c2, es2, rfl, p1, p2, p3⟩
        have Hg := Lib.hid (H9.out.below p3)
        have HBg := Lib.hid (HB9.out.below p3)
        have hp := Hg.out.put (D2 := D2) p1 p2
        have H9b := Lib.hid hp.1
        have HB9b := Lib.hid (hp.2 HBg.out)
        have f0 := World.ownsRow.frozenAt Hg.out.bd 0
        have f1 := World.ownsRow.frozenAt Hg.out.bd 1
        have f2 := World.ownsRow.frozenAt Hg.out.bd 2
        have f3 := World.ownsRow.frozenAt Hg.out.bd 3
        obtain ⟨k0, k1, k2, k3⟩ := Hg.out.cd
        clear hmc p1 p2 p3 hp hfg
        go_upto_region 10 with fail
        obtain ⟨wh, hwh⟩ : ∃ wh, wh = set4 wg w.heap.size (.int .i64 D2.room) (.slice A2 n2 c2) (.int .i64 D2.fuse) (.bool D2.dark) := ⟨_, rfl⟩
        have hwh2 : (((wg.setCell ⟨w.heap.size, 0, none⟩ (.int .i64 D2.room)).setCell ⟨w.heap.size, 1, none⟩ (.slice A2 n2 c2)).setCell ⟨w.heap.size, 2, none⟩ (.int .i64 D2.fuse)).setCell ⟨w.heap.size, 3, none⟩ (.bool D2.dark) = wh := hwh.symm
        rw [← hwh] at H9b HB9b
        rw [hwh2]
        clear hwh hwh2 f0 f1 f2 f3 k0 k1 k2 k3 Hg HBg H9 HB9
        by_cases he9 : e9 = 0
        · subst he9
          have HW3 := Lib.hid (show R = putD D2 (N : Int) b x bs by rw [HW2b.out, if_neg (by simp)])
          clear HW2b
          have hac := r2Append_any (room := D2.room) (fuse := D2.fuse) (dark := D2.dark) (G := G) (fun q hq => HG.out q (Nat.le_trans H9b.out.bel.size hq)) H9b.out.r2 (HGn.out.srtE H9b.out.eq) (by have h1 := HGn.out.fewE H9b.out.eq; have h2 := slFE_len H9b.out.r2.sl; omega) (by have := HGn.out.fuse; omega) rnw rnw_max BA bs bc HB9b.out (by have := HBL.out; omega) (HGn.out.eachE H9b.out.eq HRn.out) (by rw [H9b.out.eq]; have h1 := HGn.out.used; have h2 := HGn.out.room; omega) HGn.out.room (HGn.out.fewE H9b.out.eq)
          rw [dk_mk6 H9b.out.eq] at hac
          rw [show bstr rnw = { data := #[114, 111, 111, 116, 46, 110, 101, 119] } from rfl] at hac
          obtain ⟨e6, D3, ha6⟩ : ∃ e6 D3, appendD D2 rnw bs = (e6, D3) := ⟨_, _, rfl⟩
          rw [ha6] at hac
          have HG3 := Lib.hid (show Good D3 by have := HGn.out.append rnw bs; rw [ha6] at this; exact this)
          have HR3 := Lib.hid (show D3.room ≤ 300000 by have := append_room D2 rnw bs; rw [ha6] at this; rw [show D3.room = D2.room from this]; exact HRn.out)
          obtain ⟨k0, k1, k2, k3⟩ := H9b.out.cd
          go_wp2_with fail
          refine hac.mono ?_; rintro y wa ⟨A3, n3, c3, es3, rfl, p1, p2, p3⟩
          have Ha := Lib.hid (H9b.out.below p3)
          have HBa := Lib.hid (HB9b.out.below p3)
          have hp := Ha.out.put (D2 := D3) p1 p2
          have H10 := Lib.hid hp.1
          have HB10 := Lib.hid (hp.2 HBa.out)
          have f0 := World.ownsRow.frozenAt Ha.out.bd 0
          have f1 := World.ownsRow.frozenAt Ha.out.bd 1
          have f2 := World.ownsRow.frozenAt Ha.out.bd 2
          have f3 := World.ownsRow.frozenAt Ha.out.bd 3
          obtain ⟨k0, k1, k2, k3⟩ := Ha.out.cd
          clear hac p1 p2 p3 hp
          go_upto_region 13 with fail
          obtain ⟨wb, hwb⟩ : ∃ wb, wb = set4 wa w.heap.size (.int .i64 D3.room) (.slice A3 n3 c3) (.int .i64 D3.fuse) (.bool D3.dark) := ⟨_, rfl⟩
          have hwb2 : (((wa.setCell ⟨w.heap.size, 0, none⟩ (.int .i64 D3.room)).setCell ⟨w.heap.size, 1, none⟩ (.slice A3 n3 c3)).setCell ⟨w.heap.size, 2, none⟩ (.int .i64 D3.fuse)).setCell ⟨w.heap.size, 3, none⟩ (.bool D3.dark) = wb := hwb.symm
          rw [← hwb] at H10 HB10
          rw [hwb2]
          clear hwb hwb2 f0 f1 f2 f3 k0 k1 k2 k3 Ha HBa
          by_cases he6 : e6 = 0
          · subst he6
            have hsc := r2Sync_any (room := D3.room) (fuse := D3.fuse) (dark := D3.dark) (G := G) (fun q hq => HG.out q (Nat.le_trans H10.out.bel.size hq)) H10.out.r2 (HG3.out.srtE H10.out.eq) (by have h1 := HG3.out.fewE H10.out.eq; have h2 := slFE_len H10.out.r2.sl; omega) (by have := HG3.out.fuse; omega) rnw
            rw [dk_mk6 H10.out.eq] at hsc
            rw [show bstr rnw = { data := #[114, 111, 111, 116, 46, 110, 101, 119] } from rfl] at hsc
            obtain ⟨e7, D4, ha7⟩ : ∃ e7 D4, syncD D3 rnw = (e7, D4) := ⟨_, _, rfl⟩
            rw [ha7] at hsc
            have HG4 := Lib.hid (show Good D4 by have := HG3.out.sync rnw; rw [ha7] at this; exact this)
            obtain ⟨k0, k1, k2, k3⟩ := H10.out.cd
            go_wp2_with fail
            refine hsc.mono ?_; rintro y wc ⟨A4, n4, c4, es4, rfl, p1, p2, p3⟩
            have Hc := Lib.hid (H10.out.below p3)
            have hp := Hc.out.put (D2 := D4) p1 p2
            have H11 := Lib.hid hp.1
            have f0 := World.ownsRow.frozenAt Hc.out.bd 0
            have f1 := World.ownsRow.frozenAt Hc.out.bd 1
            have f2 := World.ownsRow.frozenAt Hc.out.bd 2
            have f3 := World.ownsRow.frozenAt Hc.out.bd 3
            obtain ⟨k0, k1, k2, k3⟩ := Hc.out.cd
            clear hsc p1 p2 p3 hp
            go_upto_region 16 with fail
            obtain ⟨wd, hwd⟩ : ∃ wd, wd = set4 wc w.heap.size (.int .i64 D4.room) (.slice A4 n4 c4) (.int .i64 D4.fuse) (.bool D4.dark) := ⟨_, rfl⟩
            have hwd2 : (((wc.setCell ⟨w.heap.size, 0, none⟩ (.int .i64 D4.room)).setCell ⟨w.heap.size, 1, none⟩ (.slice A4 n4 c4)).setCell ⟨w.heap.size, 2, none⟩ (.int .i64 D4.fuse)).setCell ⟨w.heap.size, 3, none⟩ (.bool D4.dark) = wd := hwd.symm
            rw [← hwd] at H11
            rw [hwd2]
            clear hwd hwd2 f0 f1 f2 f3 k0 k1 k2 k3 Hc H10 HB10
            by_cases he7 : e7 = 0
            · subst he7
              obtain ⟨r0, r1, r2⟩ := H11.out.cr
              obtain ⟨M, hM⟩ : ∃ M, M = N % 2 := ⟨_, rfl⟩
              have hmd : ((N : Nat) : Int).tmod 2 = (M : Int) := by rw [Int.tmod_eq_emod_of_nonneg (by omega)]; omega
              have hwm : IntKind.i64.wrap ((M : Nat) : Int) = ((M : Nat) : Int) := by rw [IntKind.wrap_i64]; omega
              have hM2 : M = 0 ∨ M = 1 := by omega
              have HM := Lib.hid hM
              clear hM
              rcases hM2 with rfl | rfl
              · skip
                have hrn : rnm N = rn0 := by unfold rnm; rw [if_pos HM.out.symm]
                have hbl : bstr (rnm N) = { data := #[114, 111, 111, 116, 48] } := by rw [hrn]; rfl
                have hnc := r2Rename_any (room := D4.room) (fuse := D4.fuse) (dark := D4.dark) (G := G) (fun q hq => HG.out q (Nat.le_trans H11.out.bel.size hq)) H11.out.r2 (HG4.out.srtE H11.out.eq) (by have h1 := HG4.out.fewE H11.out.eq; have h2 := slFE_len H11.out.r2.sl; omega) (by have := HG4.out.fuse; omega) rnw (rnm N) (rnm_max N)
                rw [dk_mk6 H11.out.eq] at hnc
                clear HM
                rw [show bstr rnw = { data := #[114, 111, 111, 116, 46, 110, 101, 119] } from rfl] at hnc
                obtain ⟨e8, D5, ha8⟩ : ∃ e8 D5, renameD D4 rnw (rnm N) = (e8, D5) := ⟨_, _, rfl⟩
                rw [ha8, hbl] at hnc
                obtain ⟨k0, k1, k2, k3⟩ := H11.out.cd
                go_wp2_with fail
                refine hnc.mono ?_; rintro y we ⟨A5, n5, c5, es5, rfl, p1, p2, p3⟩
                have He := Lib.hid (H11.out.below p3)
                have hp := He.out.put (D2 := D5) p1 p2
                have H12 := Lib.hid hp.1
                have f0 := World.ownsRow.frozenAt He.out.bd 0
                have f1 := World.ownsRow.frozenAt He.out.bd 1
                have f2 := World.ownsRow.frozenAt He.out.bd 2
                have f3 := World.ownsRow.frozenAt He.out.bd 3
                obtain ⟨k0, k1, k2, k3⟩ := He.out.cd
                clear hnc p1 p2 p3 hp r0 r1 r2
                go_upto_region 22 with fail
                obtain ⟨wf, hwf⟩ : ∃ wf, wf = set4 we w.heap.size (.int .i64 D5.room) (.slice A5 n5 c5) (.int .i64 D5.fuse) (.bool D5.dark) := ⟨_, rfl⟩
                have hwf2 : (((we.setCell ⟨w.heap.size, 0, none⟩ (.int .i64 D5.room)).setCell ⟨w.heap.size, 1, none⟩ (.slice A5 n5 c5)).setCell ⟨w.heap.size, 2, none⟩ (.int .i64 D5.fuse)).setCell ⟨w.heap.size, 3, none⟩ (.bool D5.dark) = wf := hwf.symm
                rw [← hwf] at H12
                rw [hwf2]
                clear hwf hwf2 f0 f1 f2 f3 k0 k1 k2 k3 He H11
                by_cases he8 : e8 = 0
                · subst he8
                  have HE := Lib.hid (show R = (D5, ⟨(N : Int), b, x⟩, 0) by rw [HW3.out]; simp only [putD, ha6, ha7, ha8, Int.toNat_natCast, ne_eq, not_true_eq_false, if_false])
                  clear ha6 ha7 ha8
                  have ho := H12.out.out (N : Int) b XA x.length xc
                  have ho2 := H12.out.out2 (N : Int) b XA x.length xc
                  obtain ⟨z0, z1, z2, z3⟩ := cells4 H12.out.rd
                  obtain ⟨y0, y1, y2⟩ := cells3 H12.out.rr
                  obtain ⟨u0, u1, u2⟩ := cells3 ho.1
                  obtain ⟨v0, v1, v2, v3⟩ := cells4 ho2.1
                  have f0 := World.ownsRow.frozenAt H12.out.rd 0
                  have f1 := World.ownsRow.frozenAt H12.out.rd 1
                  have f2 := World.ownsRow.frozenAt H12.out.rd 2
                  have f3 := World.ownsRow.frozenAt H12.out.rd 3
                  have g0 := World.ownsRow.frozenAt H12.out.rr 0
                  have g1 := World.ownsRow.frozenAt H12.out.rr 1
                  have g2 := World.ownsRow.frozenAt H12.out.rr 2
                  have i0 := World.ownsRow.frozenAt ho.1 0
                  have i1 := World.ownsRow.frozenAt ho.1 1
                  have i2 := World.ownsRow.frozenAt ho.1 2
                  have j0 := World.ownsRow.frozenAt ho2.1 0
                  have j1 := World.ownsRow.frozenAt ho2.1 1
                  have j2 := World.ownsRow.frozenAt ho2.1 2
                  have j3 := World.ownsRow.frozenAt ho2.1 3
                  obtain ⟨k0, k1, k2, k3⟩ := H12.out.cd
                  obtain ⟨r0, r1, r2⟩ := H12.out.cr
                  have Ho := Lib.hid ho.2
                  have Ho2 := Lib.hid ho2.2
                  clear ho ho2
                  unfold set4 at i0 i1 i2 u0 u1 u2
                  unfold set3 at j0 j1 j2 j3 v0 v1 v2 v3
                  go_upto_region 24 with fail
                  go_region_with (fail)
                  all_goals (go_wp2_with fail)
                  all_goals (first
                    | (refine bodyPost_ret (results_cell22 rfl _ _ _ ⟨w.heap.size + 2, 0, none⟩ ⟨w.heap.size + 3, 0, none⟩ rfl rfl _ _ (load_own2D (Own.below Ho.out.1 (Below.refl _ _).drew)) (load_ownR (Own.below Ho.out.2.1 (Below.refl _ _).drew))) rfl ?_
                       rw [HE.out]
                       exact ⟨_, _, _, _, XA, xc, rfl, Ho.out.2.2.1.below (Below.refl _ _).drew, H12.out.eq, (Ho.out.2.2.2.1 H12.out.sx).below (Below.refl _ _).drew, fun _ => rfl, Ho.out.2.2.2.2.drew⟩)
                    | (refine bodyPost_ret (results_cell22 rfl _ _ _ ⟨w.heap.size + 2, 0, none⟩ ⟨w.heap.size + 3, 0, none⟩ rfl rfl _ _ (load_own2D (Own.below Ho2.out.1 (Below.refl _ _).drew)) (load_ownR (Own.below Ho2.out.2.1 (Below.refl _ _).drew))) rfl ?_
                       rw [HE.out]
                       exact ⟨_, _, _, _, XA, xc, rfl, Ho2.out.2.2.1.below (Below.refl _ _).drew, H12.out.eq, (Ho2.out.2.2.2.1 H12.out.sx).below (Below.refl _ _).drew, fun _ => rfl, Ho2.out.2.2.2.2.drew⟩))
                · have HE := Lib.hid (show R = (D5, rt0, e8) by rw [HW3.out]; simp only [putD, ha6, ha7, ha8, he8, Int.toNat_natCast, ne_eq, not_true_eq_false, not_false_eq_true, if_true, if_false])
                  have he82 : (e8 == 0) = false := by simpa using he8
                  clear ha6 ha7 ha8 he8
                  have ho := H12.out.out 0 0 none 0 0
                  obtain ⟨z0, z1, z2, z3⟩ := cells4 H12.out.rd
                  obtain ⟨y0, y1, y2⟩ := cells3 H12.out.rr
                  obtain ⟨u0, u1, u2⟩ := cells3 ho.1
                  have f0 := World.ownsRow.frozenAt H12.out.rd 0
                  have f1 := World.ownsRow.frozenAt H12.out.rd 1
                  have f2 := World.ownsRow.frozenAt H12.out.rd 2
                  have f3 := World.ownsRow.frozenAt H12.out.rd 3
                  have g0 := World.ownsRow.frozenAt H12.out.rr 0
                  have g1 := World.ownsRow.frozenAt H12.out.rr 1
                  have g2 := World.ownsRow.frozenAt H12.out.rr 2
                  have i0 := World.ownsRow.frozenAt ho.1 0
                  have i1 := World.ownsRow.frozenAt ho.1 1
                  have i2 := World.ownsRow.frozenAt ho.1 2
                  have Ho := Lib.hid ho.2
                  clear ho
                  unfold set4 at i0 i1 i2 u0 u1 u2
                  obtain ⟨k0, k1, k2, k3⟩ := H12.out.cd
                  go_wp2_with fail
                  refine bodyPost_ret (results_cell22 rfl _ _ _ ⟨w.heap.size + 2, 0, none⟩ ⟨w.heap.size + 3, 0, none⟩ rfl rfl _ _ (load_own2D Ho.out.1) (load_ownR Ho.out.2.1)) rfl ?_
                  rw [HE.out]
                  exact ⟨_, _, _, _, none, 0, rfl, Ho.out.2.2.1, H12.out.eq, Sl.nil _ _, fun h => absurd rfl h, Ho.out.2.2.2.2⟩
              · skip
                have hrn : rnm N = rn1 := by unfold rnm; rw [if_neg (by have := HM.out; omega)]
                have hbl : bstr (rnm N) = { data := #[114, 111, 111, 116, 49] } := by rw [hrn]; rfl
                have hnc := r2Rename_any (room := D4.room) (fuse := D4.fuse) (dark := D4.dark) (G := G) (fun q hq => HG.out q (Nat.le_trans H11.out.bel.size hq)) H11.out.r2 (HG4.out.srtE H11.out.eq) (by have h1 := HG4.out.fewE H11.out.eq; have h2 := slFE_len H11.out.r2.sl; omega) (by have := HG4.out.fuse; omega) rnw (rnm N) (rnm_max N)
                rw [dk_mk6 H11.out.eq] at hnc
                clear HM
                rw [show bstr rnw = { data := #[114, 111, 111, 116, 46, 110, 101, 119] } from rfl] at hnc
                obtain ⟨e8, D5, ha8⟩ : ∃ e8 D5, renameD D4 rnw (rnm N) = (e8, D5) := ⟨_, _, rfl⟩
                rw [ha8, hbl] at hnc
                obtain ⟨k0, k1, k2, k3⟩ := H11.out.cd
                go_wp2_with fail
                refine hnc.mono ?_; rintro y we ⟨A5, n5, c5, es5, rfl, p1, p2, p3⟩
                have He := Lib.hid (H11.out.below p3)
                have hp := He.out.put (D2 := D5) p1 p2
                have H12 := Lib.hid hp.1
                have f0 := World.ownsRow.frozenAt He.out.bd 0
                have f1 := World.ownsRow.frozenAt He.out.bd 1
                have f2 := World.ownsRow.frozenAt He.out.bd 2
                have f3 := World.ownsRow.frozenAt He.out.bd 3
                obtain ⟨k0, k1, k2, k3⟩ := He.out.cd
                clear hnc p1 p2 p3 hp r0 r1 r2
                go_upto_region 22 with fail
                obtain ⟨wf, hwf⟩ : ∃ wf, wf = set4 we w.heap.size (.int .i64 D5.room) (.slice A5 n5 c5) (.int .i64 D5.fuse) (.bool D5.dark) := ⟨_, rfl⟩
                have hwf2 : (((we.setCell ⟨w.heap.size, 0, none⟩ (.int .i64 D5.room)).setCell ⟨w.heap.size, 1, none⟩ (.slice A5 n5 c5)).setCell ⟨w.heap.size, 2, none⟩ (.int .i64 D5.fuse)).setCell ⟨w.heap.size, 3, none⟩ (.bool D5.dark) = wf := hwf.symm
                rw [← hwf] at H12
                rw [hwf2]
                clear hwf hwf2 f0 f1 f2 f3 k0 k1 k2 k3 He H11
                by_cases he8 : e8 = 0
                · subst he8
                  have HE := Lib.hid (show R = (D5, ⟨(N : Int), b, x⟩, 0) by rw [HW3.out]; simp only [putD, ha6, ha7, ha8, Int.toNat_natCast, ne_eq, not_true_eq_false, if_false])
                  clear ha6 ha7 ha8
                  have ho := H12.out.out (N : Int) b XA x.length xc
                  have ho2 := H12.out.out2 (N : Int) b XA x.length xc
                  obtain ⟨z0, z1, z2, z3⟩ := cells4 H12.out.rd
                  obtain ⟨y0, y1, y2⟩ := cells3 H12.out.rr
                  obtain ⟨u0, u1, u2⟩ := cells3 ho.1
                  obtain ⟨v0, v1, v2, v3⟩ := cells4 ho2.1
                  have f0 := World.ownsRow.frozenAt H12.out.rd 0
                  have f1 := World.ownsRow.frozenAt H12.out.rd 1
                  have f2 := World.ownsRow.frozenAt H12.out.rd 2
                  have f3 := World.ownsRow.frozenAt H12.out.rd 3
                  have g0 := World.ownsRow.frozenAt H12.out.rr 0
                  have g1 := World.ownsRow.frozenAt H12.out.rr 1
                  have g2 := World.ownsRow.frozenAt H12.out.rr 2
                  have i0 := World.ownsRow.frozenAt ho.1 0
                  have i1 := World.ownsRow.frozenAt ho.1 1
                  have i2 := World.ownsRow.frozenAt ho.1 2
                  have j0 := World.ownsRow.frozenAt ho2.1 0
                  have j1 := World.ownsRow.frozenAt ho2.1 1
                  have j2 := World.ownsRow.frozenAt ho2.1 2
                  have j3 := World.ownsRow.frozenAt ho2.1 3
                  obtain ⟨k0, k1, k2, k3⟩ := H12.out.cd
                  obtain ⟨r0, r1, r2⟩ := H12.out.cr
                  have Ho := Lib.hid ho.2
                  have Ho2 := Lib.hid ho2.2
                  clear ho ho2
                  unfold set4 at i0 i1 i2 u0 u1 u2
                  unfold set3 at j0 j1 j2 j3 v0 v1 v2 v3
                  go_upto_region 24 with fail
                  go_region_with (fail)
                  all_goals (go_wp2_with fail)
                  all_goals (first
                    | (refine bodyPost_ret (results_cell22 rfl _ _ _ ⟨w.heap.size + 2, 0, none⟩ ⟨w.heap.size + 3, 0, none⟩ rfl rfl _ _ (load_own2D (Own.below Ho.out.1 (Below.refl _ _).drew)) (load_ownR (Own.below Ho.out.2.1 (Below.refl _ _).drew))) rfl ?_
                       rw [HE.out]
                       exact ⟨_, _, _, _, XA, xc, rfl, Ho.out.2.2.1.below (Below.refl _ _).drew, H12.out.eq, (Ho.out.2.2.2.1 H12.out.sx).below (Below.refl _ _).drew, fun _ => rfl, Ho.out.2.2.2.2.drew⟩)
                    | (refine bodyPost_ret (results_cell22 rfl _ _ _ ⟨w.heap.size + 2, 0, none⟩ ⟨w.heap.size + 3, 0, none⟩ rfl rfl _ _ (load_own2D (Own.below Ho2.out.1 (Below.refl _ _).drew)) (load_ownR (Own.below Ho2.out.2.1 (Below.refl _ _).drew))) rfl ?_
                       rw [HE.out]
                       exact ⟨_, _, _, _, XA, xc, rfl, Ho2.out.2.2.1.below (Below.refl _ _).drew, H12.out.eq, (Ho2.out.2.2.2.1 H12.out.sx).below (Below.refl _ _).drew, fun _ => rfl, Ho2.out.2.2.2.2.drew⟩))
                · have HE := Lib.hid (show R = (D5, rt0, e8) by rw [HW3.out]; simp only [putD, ha6, ha7, ha8, he8, Int.toNat_natCast, ne_eq, not_true_eq_false, not_false_eq_true, if_true, if_false])
                  have he82 : (e8 == 0) = false := by simpa using he8
                  clear ha6 ha7 ha8 he8
                  have ho := H12.out.out 0 0 none 0 0
                  obtain ⟨z0, z1, z2, z3⟩ := cells4 H12.out.rd
                  obtain ⟨y0, y1, y2⟩ := cells3 H12.out.rr
                  obtain ⟨u0, u1, u2⟩ := cells3 ho.1
                  have f0 := World.ownsRow.frozenAt H12.out.rd 0
                  have f1 := World.ownsRow.frozenAt H12.out.rd 1
                  have f2 := World.ownsRow.frozenAt H12.out.rd 2
                  have f3 := World.ownsRow.frozenAt H12.out.rd 3
                  have g0 := World.ownsRow.frozenAt H12.out.rr 0
                  have g1 := World.ownsRow.frozenAt H12.out.rr 1
                  have g2 := World.ownsRow.frozenAt H12.out.rr 2
                  have i0 := World.ownsRow.frozenAt ho.1 0
                  have i1 := World.ownsRow.frozenAt ho.1 1
                  have i2 := World.ownsRow.frozenAt ho.1 2
                  have Ho := Lib.hid ho.2
                  clear ho
                  unfold set4 at i0 i1 i2 u0 u1 u2
                  obtain ⟨k0, k1, k2, k3⟩ := H12.out.cd
                  go_wp2_with fail
                  refine bodyPost_ret (results_cell22 rfl _ _ _ ⟨w.heap.size + 2, 0, none⟩ ⟨w.heap.size + 3, 0, none⟩ rfl rfl _ _ (load_own2D Ho.out.1) (load_ownR Ho.out.2.1)) rfl ?_
                  rw [HE.out]
                  exact ⟨_, _, _, _, none, 0, rfl, Ho.out.2.2.1, H12.out.eq, Sl.nil _ _, fun h => absurd rfl h, Ho.out.2.2.2.2⟩
            · have HE := Lib.hid (show R = (D4, rt0, e7) by rw [HW3.out]; simp only [putD, ha6, ha7, he7, ne_eq, not_true_eq_false, not_false_eq_true, if_true, if_false])
              have he72 : (e7 == 0) = false := by simpa using he7
              clear ha6 ha7 he7
              have ho := H11.out.out 0 0 none 0 0
              obtain ⟨z0, z1, z2, z3⟩ := cells4 H11.out.rd
              obtain ⟨y0, y1, y2⟩ := cells3 H11.out.rr
              obtain ⟨u0, u1, u2⟩ := cells3 ho.1
              have f0 := World.ownsRow.frozenAt H11.out.rd 0
              have f1 := World.ownsRow.frozenAt H11.out.rd 1
              have f2 := World.ownsRow.frozenAt H11.out.rd 2
              have f3 := World.ownsRow.frozenAt H11.out.rd 3
              have g0 := World.ownsRow.frozenAt H11.out.rr 0
              have g1 := World.ownsRow.frozenAt H11.out.rr 1
              have g2 := World.ownsRow.frozenAt H11.out.rr 2
              have i0 := World.ownsRow.frozenAt ho.1 0
              have i1 := World.ownsRow.frozenAt ho.1 1
              have i2 := World.ownsRow.frozenAt ho.1 2
              have Ho := Lib.hid ho.2
              clear ho
              unfold set4 at i0 i1 i2 u0 u1 u2
              obtain ⟨k0, k1, k2, k3⟩ := H11.out.cd
              go_wp2_with fail
              refine bodyPost_ret (results_cell22 rfl _ _ _ ⟨w.heap.size + 2, 0, none⟩ ⟨w.heap.size + 3, 0, none⟩ rfl rfl _ _ (load_own2D Ho.out.1) (load_ownR Ho.out.2.1)) rfl ?_
              rw [HE.out]
              exact ⟨_, _, _, _, none, 0, rfl, Ho.out.2.2.1, H11.out.eq, Sl.nil _ _, fun h => absurd rfl h, Ho.out.2.2.2.2⟩
          · have HE := Lib.hid (show R = (D3, rt0, e6) by rw [HW3.out]; simp only [putD, ha6, he6, ne_eq, not_false_eq_true, if_true])
            have he62 : (e6 == 0) = false := by simpa using he6
            clear ha6 he6
            have ho := H10.out.out 0 0 none 0 0
            obtain ⟨z0, z1, z2, z3⟩ := cells4 H10.out.rd
            obtain ⟨y0, y1, y2⟩ := cells3 H10.out.rr
            obtain ⟨u0, u1, u2⟩ := cells3 ho.1
            have f0 := World.ownsRow.frozenAt H10.out.rd 0
            have f1 := World.ownsRow.frozenAt H10.out.rd 1
            have f2 := World.ownsRow.frozenAt H10.out.rd 2
            have f3 := World.ownsRow.frozenAt H10.out.rd 3
            have g0 := World.ownsRow.frozenAt H10.out.rr 0
            have g1 := World.ownsRow.frozenAt H10.out.rr 1
            have g2 := World.ownsRow.frozenAt H10.out.rr 2
            have i0 := World.ownsRow.frozenAt ho.1 0
            have i1 := World.ownsRow.frozenAt ho.1 1
            have i2 := World.ownsRow.frozenAt ho.1 2
            have Ho := Lib.hid ho.2
            clear ho
            unfold set4 at i0 i1 i2 u0 u1 u2
            obtain ⟨k0, k1, k2, k3⟩ := H10.out.cd
            go_wp2_with fail
            refine bodyPost_ret (results_cell22 rfl _ _ _ ⟨w.heap.size + 2, 0, none⟩ ⟨w.heap.size + 3, 0, none⟩ rfl rfl _ _ (load_own2D Ho.out.1) (load_ownR Ho.out.2.1)) rfl ?_
            rw [HE.out]
            exact ⟨_, _, _, _, none, 0, rfl, Ho.out.2.2.1, H10.out.eq, Sl.nil _ _, fun h => absurd rfl h, Ho.out.2.2.2.2⟩
        · have HE := Lib.hid (show R = (D2, rt0, e9) by rw [HW2b.out, if_pos he9])
          have he92 : (e9 == 0) = false := by simpa using he9
          clear he9
          have ho := H9b.out.out 0 0 none 0 0
          obtain ⟨z0, z1, z2, z3⟩ := cells4 H9b.out.rd
          obtain ⟨y0, y1, y2⟩ := cells3 H9b.out.rr
          obtain ⟨u0, u1, u2⟩ := cells3 ho.1
          have f0 := World.ownsRow.frozenAt H9b.out.rd 0
          have f1 := World.ownsRow.frozenAt H9b.out.rd 1
          have f2 := World.ownsRow.frozenAt H9b.out.rd 2
          have f3 := World.ownsRow.frozenAt H9b.out.rd 3
          have g0 := World.ownsRow.frozenAt H9b.out.rr 0
          have g1 := World.ownsRow.frozenAt H9b.out.rr 1
          have g2 := World.ownsRow.frozenAt H9b.out.rr 2
          have i0 := World.ownsRow.frozenAt ho.1 0
          have i1 := World.ownsRow.frozenAt ho.1 1
          have i2 := World.ownsRow.frozenAt ho.1 2
          have Ho := Lib.hid ho.2
          clear ho
          unfold set4 at i0 i1 i2 u0 u1 u2
          obtain ⟨k0, k1, k2, k3⟩ := H9b.out.cd
          go_wp2_with fail
          refine bodyPost_ret (results_cell22 rfl _ _ _ ⟨w.heap.size + 2, 0, none⟩ ⟨w.heap.size + 3, 0, none⟩ rfl rfl _ _ (load_own2D Ho.out.1) (load_ownR Ho.out.2.1)) rfl ?_
          rw [HE.out]
          exact ⟨_, _, _, _, none, 0, rfl, Ho.out.2.2.1, H9b.out.eq, Sl.nil _ _, fun h => absurd rfl h, Ho.out.2.2.2.2⟩
      | false =>
        have hfg := findI_lt D.fs rnw ht
        have HW3 := Lib.hid (show R = putD D (N : Int) b x bs by rw [HW2.out, if_neg (fun h => by rw [(read_there HD.out rnw).1 h] at ht; cases ht)])
        rw [hfg]
        have HGn := HGd
        have HRn := HRm
        clear HW2 ht hfg
        have hac := r2Append_any (room := D.room) (fuse := D.fuse) (dark := D.dark) (G := G) (fun q hq => HG.out q (Nat.le_trans H9.out.bel.size hq)) H9.out.r2 (HGn.out.srtE H9.out.eq) (by have h1 := HGn.out.fewE H9.out.eq; have h2 := slFE_len H9.out.r2.sl; omega) (by have := HGn.out.fuse; omega) rnw rnw_max BA bs bc HB9.out (by have := HBL.out; omega) (HGn.out.eachE H9.out.eq HRn.out) (by rw [H9.out.eq]; have h1 := HGn.out.used; have h2 := HGn.out.room; omega) HGn.out.room (HGn.out.fewE H9.out.eq)
        rw [dk_mk6 H9.out.eq] at hac
        rw [show bstr rnw = { data := #[114, 111, 111, 116, 46, 110, 101, 119] } from rfl] at hac
        obtain ⟨e6, D3, ha6⟩ : ∃ e6 D3, appendD D rnw bs = (e6, D3) := ⟨_, _, rfl⟩
        rw [ha6] at hac
        have HG3 := Lib.hid (show Good D3 by have := HGn.out.append rnw bs; rw [ha6] at this; exact this)
        have HR3 := Lib.hid (show D3.room ≤ 300000 by have := append_room D rnw bs; rw [ha6] at this; rw [show D3.room = D.room from this]; exact HRn.out)
        obtain ⟨k0, k1, k2, k3⟩ := H9.out.cd
        go_wp2_with fail
        refine hac.mono ?_; rintro y wa ⟨A3, n3, c3, es3, rfl, p1, p2, p3⟩
        have Ha := Lib.hid (H9.out.below p3)
        have HBa := Lib.hid (HB9.out.below p3)
        have hp := Ha.out.put (D2 := D3) p1 p2
        have H10 := Lib.hid hp.1
        have HB10 := Lib.hid (hp.2 HBa.out)
        have f0 := World.ownsRow.frozenAt Ha.out.bd 0
        have f1 := World.ownsRow.frozenAt Ha.out.bd 1
        have f2 := World.ownsRow.frozenAt Ha.out.bd 2
        have f3 := World.ownsRow.frozenAt Ha.out.bd 3
        obtain ⟨k0, k1, k2, k3⟩ := Ha.out.cd
        clear hac p1 p2 p3 hp
        go_upto_region 13 with fail
        obtain ⟨wb, hwb⟩ : ∃ wb, wb = set4 wa w.heap.size (.int .i64 D3.room) (.slice A3 n3 c3) (.int .i64 D3.fuse) (.bool D3.dark) := ⟨_, rfl⟩
        have hwb2 : (((wa.setCell ⟨w.heap.size, 0, none⟩ (.int .i64 D3.room)).setCell ⟨w.heap.size, 1, none⟩ (.slice A3 n3 c3)).setCell ⟨w.heap.size, 2, none⟩ (.int .i64 D3.fuse)).setCell ⟨w.heap.size, 3, none⟩ (.bool D3.dark) = wb := hwb.symm
        rw [← hwb] at H10 HB10
        rw [hwb2]
        clear hwb hwb2 f0 f1 f2 f3 k0 k1 k2 k3 Ha HBa
        by_cases he6 : e6 = 0
        · subst he6
          have hsc := r2Sync_any (room := D3.room) (fuse := D3.fuse) (dark := D3.dark) (G := G) (fun q hq => HG.out q (Nat.le_trans H10.out.bel.size hq)) H10.out.r2 (HG3.out.srtE H10.out.eq) (by have h1 := HG3.out.fewE H10.out.eq; have h2 := slFE_len H10.out.r2.sl; omega) (by have := HG3.out.fuse; omega) rnw
          rw [dk_mk6 H10.out.eq] at hsc
          rw [show bstr rnw = { data := #[114, 111, 111, 116, 46, 110, 101, 119] } from rfl] at hsc
          obtain ⟨e7, D4, ha7⟩ : ∃ e7 D4, syncD D3 rnw = (e7, D4) := ⟨_, _, rfl⟩
          rw [ha7] at hsc
          have HG4 := Lib.hid (show Good D4 by have := HG3.out.sync rnw; rw [ha7] at this; exact this)
          obtain ⟨k0, k1, k2, k3⟩ := H10.out.cd
          go_wp2_with fail
          refine hsc.mono ?_; rintro y wc ⟨A4, n4, c4, es4, rfl, p1, p2, p3⟩
          have Hc := Lib.hid (H10.out.below p3)
          have hp := Hc.out.put (D2 := D4) p1 p2
          have H11 := Lib.hid hp.1
          have f0 := World.ownsRow.frozenAt Hc.out.bd 0
          have f1 := World.ownsRow.frozenAt Hc.out.bd 1
          have f2 := World.ownsRow.frozenAt Hc.out.bd 2
          have f3 := World.ownsRow.frozenAt Hc.out.bd 3
          obtain ⟨k0, k1, k2, k3⟩ := Hc.out.cd
          clear hsc p1 p2 p3 hp
          go_upto_region 16 with fail
          obtain ⟨wd, hwd⟩ : ∃ wd, wd = set4 wc w.heap.size (.int .i64 D4.room) (.slice A4 n4 c4) (.int .i64 D4.fuse) (.bool D4.dark) := ⟨_, rfl⟩
          have hwd2 : (((wc.setCell ⟨w.heap.size, 0, none⟩ (.int .i64 D4.room)).setCell ⟨w.heap.size, 1, none⟩ (.slice A4 n4 c4)).setCell ⟨w.heap.size, 2, none⟩ (.int .i64 D4.fuse)).setCell ⟨w.heap.size, 3, none⟩ (.bool D4.dark) = wd := hwd.symm
          rw [← hwd] at H11
          rw [hwd2]
          clear hwd hwd2 f0 f1 f2 f3 k0 k1 k2 k3 Hc H10 HB10
          by_cases he7 : e7 = 0
          · subst he7
            obtain ⟨r0, r1, r2⟩ := H11.out.cr
            obtain ⟨M, hM⟩ : ∃ M, M = N % 2 := ⟨_, rfl⟩
            have hmd : ((N : Nat) : Int).tmod 2 = (M : Int) := by rw [Int.tmod_eq_emod_of_nonneg (by omega)]; omega
            have hwm : IntKind.i64.wrap ((M : Nat) : Int) = ((M : Nat) : Int) := by rw [IntKind.wrap_i64]; omega
            have hM2 : M = 0 ∨ M = 1 := by omega
            have HM := Lib.hid hM
            clear hM
            rcases hM2 with rfl | rfl
            · skip
              have hrn : rnm N = rn0 := by unfold rnm; rw [if_pos HM.out.symm]
              have hbl : bstr (rnm N) = { data := #[114, 111, 111, 116, 48] } := by rw [hrn]; rfl
              have hnc := r2Rename_any (room := D4.room) (fuse := D4.fuse) (dark := D4.dark) (G := G) (fun q hq => HG.out q (Nat.le_trans H11.out.bel.size hq)) H11.out.r2 (HG4.out.srtE H11.out.eq) (by have h1 := HG4.out.fewE H11.out.eq; have h2 := slFE_len H11.out.r2.sl; omega) (by have := HG4.out.fuse; omega) rnw (rnm N) (rnm_max N)
              rw [dk_mk6 H11.out.eq] at hnc
              clear HM
              rw [show bstr rnw = { data := #[114, 111, 111, 116, 46, 110, 101, 119] } from rfl] at hnc
              obtain ⟨e8, D5, ha8⟩ : ∃ e8 D5, renameD D4 rnw (rnm N) = (e8, D5) := ⟨_, _, rfl⟩
              rw [ha8, hbl] at hnc
              obtain ⟨k0, k1, k2, k3⟩ := H11.out.cd
              go_wp2_with fail
              refine hnc.mono ?_; rintro y we ⟨A5, n5, c5, es5, rfl, p1, p2, p3⟩
              have He := Lib.hid (H11.out.below p3)
              have hp := He.out.put (D2 := D5) p1 p2
              have H12 := Lib.hid hp.1
              have f0 := World.ownsRow.frozenAt He.out.bd 0
              have f1 := World.ownsRow.frozenAt He.out.bd 1
              have f2 := World.ownsRow.frozenAt He.out.bd 2
              have f3 := World.ownsRow.frozenAt He.out.bd 3
              obtain ⟨k0, k1, k2, k3⟩ := He.out.cd
              clear hnc p1 p2 p3 hp r0 r1 r2
              go_upto_region 22 with fail
              obtain ⟨wf, hwf⟩ : ∃ wf, wf = set4 we w.heap.size (.int .i64 D5.room) (.slice A5 n5 c5) (.int .i64 D5.fuse) (.bool D5.dark) := ⟨_, rfl⟩
              have hwf2 : (((we.setCell ⟨w.heap.size, 0, none⟩ (.int .i64 D5.room)).setCell ⟨w.heap.size, 1, none⟩ (.slice A5 n5 c5)).setCell ⟨w.heap.size, 2, none⟩ (.int .i64 D5.fuse)).setCell ⟨w.heap.size, 3, none⟩ (.bool D5.dark) = wf := hwf.symm
              rw [← hwf] at H12
              rw [hwf2]
              clear hwf hwf2 f0 f1 f2 f3 k0 k1 k2 k3 He H11
              by_cases he8 : e8 = 0
              · subst he8
                have HE := Lib.hid (show R = (D5, ⟨(N : Int), b, x⟩, 0) by rw [HW3.out]; simp only [putD, ha6, ha7, ha8, Int.toNat_natCast, ne_eq, not_true_eq_false, if_false])
                clear ha6 ha7 ha8
                have ho := H12.out.out (N : Int) b XA x.length xc
                have ho2 := H12.out.out2 (N : Int) b XA x.length xc
                obtain ⟨z0, z1, z2, z3⟩ := cells4 H12.out.rd
                obtain ⟨y0, y1, y2⟩ := cells3 H12.out.rr
                obtain ⟨u0, u1, u2⟩ := cells3 ho.1
                obtain ⟨v0, v1, v2, v3⟩ := cells4 ho2.1
                have f0 := World.ownsRow.frozenAt H12.out.rd 0
                have f1 := World.ownsRow.frozenAt H12.out.rd 1
                have f2 := World.ownsRow.frozenAt H12.out.rd 2
                have f3 := World.ownsRow.frozenAt H12.out.rd 3
                have g0 := World.ownsRow.frozenAt H12.out.rr 0
                have g1 := World.ownsRow.frozenAt H12.out.rr 1
                have g2 := World.ownsRow.frozenAt H12.out.rr 2
                have i0 := World.ownsRow.frozenAt ho.1 0
                have i1 := World.ownsRow.frozenAt ho.1 1
                have i2 := World.ownsRow.frozenAt ho.1 2
                have j0 := World.ownsRow.frozenAt ho2.1 0
                have j1 := World.ownsRow.frozenAt ho2.1 1
                have j2 := World.ownsRow.frozenAt ho2.1 2
                have j3 := World.ownsRow.frozenAt ho2.1 3
                obtain ⟨k0, k1, k2, k3⟩ := H12.out.cd
                obtain ⟨r0, r1, r2⟩ := H12.out.cr
                have Ho := Lib.hid ho.2
                have Ho2 := Lib.hid ho2.2
                clear ho ho2
                unfold set4 at i0 i1 i2 u0 u1 u2
                unfold set3 at j0 j1 j2 j3 v0 v1 v2 v3
                go_upto_region 24 with fail
                go_region_with (fail)
                all_goals (go_wp2_with fail)
                all_goals (first
                  | (refine bodyPost_ret (results_cell22 rfl _ _ _ ⟨w.heap.size + 2, 0, none⟩ ⟨w.heap.size + 3, 0, none⟩ rfl rfl _ _ (load_own2D (Own.below Ho.out.1 (Below.refl _ _).drew)) (load_ownR (Own.below Ho.out.2.1 (Below.refl _ _).drew))) rfl ?_
                     rw [HE.out]
                     exact ⟨_, _, _, _, XA, xc, rfl, Ho.out.2.2.1.below (Below.refl _ _).drew, H12.out.eq, (Ho.out.2.2.2.1 H12.out.sx).below (Below.refl _ _).drew, fun _ => rfl, Ho.out.2.2.2.2.drew⟩)
                  | (refine bodyPost_ret (results_cell22 rfl _ _ _ ⟨w.heap.size + 2, 0, none⟩ ⟨w.heap.size + 3, 0, none⟩ rfl rfl _ _ (load_own2D (Own.below Ho2.out.1 (Below.refl _ _).drew)) (load_ownR (Own.below Ho2.out.2.1 (Below.refl _ _).drew))) rfl ?_
                     rw [HE.out]
                     exact ⟨_, _, _, _, XA, xc, rfl, Ho2.out.2.2.1.below (Below.refl _ _).drew, H12.out.eq, (Ho2.out.2.2.2.1 H12.out.sx).below (Below.refl _ _).drew, fun _ => rfl, Ho2.out.2.2.2.2.drew⟩))
              · have HE := Lib.hid (show R = (D5, rt0, e8) by rw [HW3.out]; simp only [putD, ha6, ha7, ha8, he8, Int.toNat_natCast, ne_eq, not_true_eq_false, not_false_eq_true, if_true, if_false])
                have he82 : (e8 == 0) = false := by simpa using he8
                clear ha6 ha7 ha8 he8
                have ho := H12.out.out 0 0 none 0 0
                obtain ⟨z0, z1, z2, z3⟩ := cells4 H12.out.rd
                obtain ⟨y0, y1, y2⟩ := cells3 H12.out.rr
                obtain ⟨u0, u1, u2⟩ := cells3 ho.1
                have f0 := World.ownsRow.frozenAt H12.out.rd 0
                have f1 := World.ownsRow.frozenAt H12.out.rd 1
                have f2 := World.ownsRow.frozenAt H12.out.rd 2
                have f3 := World.ownsRow.frozenAt H12.out.rd 3
                have g0 := World.ownsRow.frozenAt H12.out.rr 0
                have g1 := World.ownsRow.frozenAt H12.out.rr 1
                have g2 := World.ownsRow.frozenAt H12.out.rr 2
                have i0 := World.ownsRow.frozenAt ho.1 0
                have i1 := World.ownsRow.frozenAt ho.1 1
                have i2 := World.ownsRow.frozenAt ho.1 2
                have Ho := Lib.hid ho.2
                clear ho
                unfold set4 at i0 i1 i2 u0 u1 u2
                obtain ⟨k0, k1, k2, k3⟩ := H12.out.cd
                go_wp2_with fail
                refine bodyPost_ret (results_cell22 rfl _ _ _ ⟨w.heap.size + 2, 0, none⟩ ⟨w.heap.size + 3, 0, none⟩ rfl rfl _ _ (load_own2D Ho.out.1) (load_ownR Ho.out.2.1)) rfl ?_
                rw [HE.out]
                exact ⟨_, _, _, _, none, 0, rfl, Ho.out.2.2.1, H12.out.eq, Sl.nil _ _, fun h => absurd rfl h, Ho.out.2.2.2.2⟩
            · skip
              have hrn : rnm N = rn1 := by unfold rnm; rw [if_neg (by have := HM.out; omega)]
              have hbl : bstr (rnm N) = { data := #[114, 111, 111, 116, 49] } := by rw [hrn]; rfl
              have hnc := r2Rename_any (room := D4.room) (fuse := D4.fuse) (dark := D4.dark) (G := G) (fun q hq => HG.out q (Nat.le_trans H11.out.bel.size hq)) H11.out.r2 (HG4.out.srtE H11.out.eq) (by have h1 := HG4.out.fewE H11.out.eq; have h2 := slFE_len H11.out.r2.sl; omega) (by have := HG4.out.fuse; omega) rnw (rnm N) (rnm_max N)
              rw [dk_mk6 H11.out.eq] at hnc
              clear HM
              rw [show bstr rnw = { data := #[114, 111, 111, 116, 46, 110, 101, 119] } from rfl] at hnc
              obtain ⟨e8, D5, ha8⟩ : ∃ e8 D5, renameD D4 rnw (rnm N) = (e8, D5) := ⟨_, _, rfl⟩
              rw [ha8, hbl] at hnc
              obtain ⟨k0, k1, k2, k3⟩ := H11.out.cd
              go_wp2_with fail
              refine hnc.mono ?_; rintro y we ⟨A5, n5, c5, es5, rfl, p1, p2, p3⟩
              have He := Lib.hid (H11.out.below p3)
              have hp := He.out.put (D2 := D5) p1 p2
              have H12 := Lib.hid hp.1
              have f0 := World.ownsRow.frozenAt He.out.bd 0
              have f1 := World.ownsRow.frozenAt He.out.bd 1
              have f2 := World.ownsRow.frozenAt He.out.bd 2
              have f3 := World.ownsRow.frozenAt He.out.bd 3
              obtain ⟨k0, k1, k2, k3⟩ := He.out.cd
              clear hnc p1 p2 p3 hp r0 r1 r2
              go_upto_region 22 with fail
              obtain ⟨wf, hwf⟩ : ∃ wf, wf = set4 we w.heap.size (.int .i64 D5.room) (.slice A5 n5 c5) (.int .i64 D5.fuse) (.bool D5.dark) := ⟨_, rfl⟩
              have hwf2 : (((we.setCell ⟨w.heap.size, 0, none⟩ (.int .i64 D5.room)).setCell ⟨w.heap.size, 1, none⟩ (.slice A5 n5 c5)).setCell ⟨w.heap.size, 2, none⟩ (.int .i64 D5.fuse)).setCell ⟨w.heap.size, 3, none⟩ (.bool D5.dark) = wf := hwf.symm
              rw [← hwf] at H12
              rw [hwf2]
              clear hwf hwf2 f0 f1 f2 f3 k0 k1 k2 k3 He H11
              by_cases he8 : e8 = 0
              · subst he8
                have HE := Lib.hid (show R = (D5, ⟨(N : Int), b, x⟩, 0) by rw [HW3.out]; simp only [putD, ha6, ha7, ha8, Int.toNat_natCast, ne_eq, not_true_eq_false, if_false])
                clear ha6 ha7 ha8
                have ho := H12.out.out (N : Int) b XA x.length xc
                have ho2 := H12.out.out2 (N : Int) b XA x.length xc
                obtain ⟨z0, z1, z2, z3⟩ := cells4 H12.out.rd
                obtain ⟨y0, y1, y2⟩ := cells3 H12.out.rr
                obtain ⟨u0, u1, u2⟩ := cells3 ho.1
                obtain ⟨v0, v1, v2, v3⟩ := cells4 ho2.1
                have f0 := World.ownsRow.frozenAt H12.out.rd 0
                have f1 := World.ownsRow.frozenAt H12.out.rd 1
                have f2 := World.ownsRow.frozenAt H12.out.rd 2
                have f3 := World.ownsRow.frozenAt H12.out.rd 3
                have g0 := World.ownsRow.frozenAt H12.out.rr 0
                have g1 := World.ownsRow.frozenAt H12.out.rr 1
                have g2 := World.ownsRow.frozenAt H12.out.rr 2
                have i0 := World.ownsRow.frozenAt ho.1 0
                have i1 := World.ownsRow.frozenAt ho.1 1
                have i2 := World.ownsRow.frozenAt ho.1 2
                have j0 := World.ownsRow.frozenAt ho2.1 0
                have j1 := World.ownsRow.frozenAt ho2.1 1
                have j2 := World.ownsRow.frozenAt ho2.1 2
                have j3 := World.ownsRow.frozenAt ho2.1 3
                obtain ⟨k0, k1, k2, k3⟩ := H12.out.cd
                obtain ⟨r0, r1, r2⟩ := H12.out.cr
                have Ho := Lib.hid ho.2
                have Ho2 := Lib.hid ho2.2
                clear ho ho2
                unfold set4 at i0 i1 i2 u0 u1 u2
                unfold set3 at j0 j1 j2 j3 v0 v1 v2 v3
                go_upto_region 24 with fail
                go_region_with (fail)
                all_goals (go_wp2_with fail)
                all_goals (first
                  | (refine bodyPost_ret (results_cell22 rfl _ _ _ ⟨w.heap.size + 2, 0, none⟩ ⟨w.heap.size + 3, 0, none⟩ rfl rfl _ _ (load_own2D (Own.below Ho.out.1 (Below.refl _ _).drew)) (load_ownR (Own.below Ho.out.2.1 (Below.refl _ _).drew))) rfl ?_
                     rw [HE.out]
                     exact ⟨_, _, _, _, XA, xc, rfl, Ho.out.2.2.1.below (Below.refl _ _).drew, H12.out.eq, (Ho.out.2.2.2.1 H12.out.sx).below (Below.refl _ _).drew, fun _ => rfl, Ho.out.2.2.2.2.drew⟩)
                  | (refine bodyPost_ret (results_cell22 rfl _ _ _ ⟨w.heap.size + 2, 0, none⟩ ⟨w.heap.size + 3, 0, none⟩ rfl rfl _ _ (load_own2D (Own.below Ho2.out.1 (Below.refl _ _).drew)) (load_ownR (Own.below Ho2.out.2.1 (Below.refl _ _).drew))) rfl ?_
                     rw [HE.out]
                     exact ⟨_, _, _, _, XA, xc, rfl, Ho2.out.2.2.1.below (Below.refl _ _).drew, H12.out.eq, (Ho2.out.2.2.2.1 H12.out.sx).below (Below.refl _ _).drew, fun _ => rfl, Ho2.out.2.2.2.2.drew⟩))
              · have HE := Lib.hid (show R = (D5, rt0, e8) by rw [HW3.out]; simp only [putD, ha6, ha7, ha8, he8, Int.toNat_natCast, ne_eq, not_true_eq_false, not_false_eq_true, if_true, if_false])
                have he82 : (e8 == 0) = false := by simpa using he8
                clear ha6 ha7 ha8 he8
                have ho := H12.out.out 0 0 none 0 0
                obtain ⟨z0, z1, z2, z3⟩ := cells4 H12.out.rd
                obtain ⟨y0, y1, y2⟩ := cells3 H12.out.rr
                obtain ⟨u0, u1, u2⟩ := cells3 ho.1
                have f0 := World.ownsRow.frozenAt H12.out.rd 0
                have f1 := World.ownsRow.frozenAt H12.out.rd 1
                have f2 := World.ownsRow.frozenAt H12.out.rd 2
                have f3 := World.ownsRow.frozenAt H12.out.rd 3
                have g0 := World.ownsRow.frozenAt H12.out.rr 0
                have g1 := World.ownsRow.frozenAt H12.out.rr 1
                have g2 := World.ownsRow.frozenAt H12.out.rr 2
                have i0 := World.ownsRow.frozenAt ho.1 0
                have i1 := World.ownsRow.frozenAt ho.1 1
                have i2 := World.ownsRow.frozenAt ho.1 2
                have Ho := Lib.hid ho.2
                clear ho
                unfold set4 at i0 i1 i2 u0 u1 u2
                obtain ⟨k0, k1, k2, k3⟩ := H12.out.cd
                go_wp2_with fail
                refine bodyPost_ret (results_cell22 rfl _ _ _ ⟨w.heap.size + 2, 0, none⟩ ⟨w.heap.size + 3, 0, none⟩ rfl rfl _ _ (load_own2D Ho.out.1) (load_ownR Ho.out.2.1)) rfl ?_
                rw [HE.out]
                exact ⟨_, _, _, _, none, 0, rfl, Ho.out.2.2.1, H12.out.eq, Sl.nil _ _, fun h => absurd rfl h, Ho.out.2.2.2.2⟩
          · have HE := Lib.hid (show R = (D4, rt0, e7) by rw [HW3.out]; simp only [putD, ha6, ha7, he7, ne_eq, not_true_eq_false, not_false_eq_true, if_true, if_false])
            have he72 : (e7 == 0) = false := by simpa using he7
            clear ha6 ha7 he7
            have ho := H11.out.out 0 0 none 0 0
            obtain ⟨z0, z1, z2, z3⟩ := cells4 H11.out.rd
            obtain ⟨y0, y1, y2⟩ := cells3 H11.out.rr
            obtain ⟨u0, u1, u2⟩ := cells3 ho.1
            have f0 := World.ownsRow.frozenAt H11.out.rd 0
            have f1 := World.ownsRow.frozenAt H11.out.rd 1
            have f2 := World.ownsRow.frozenAt H11.out.rd 2
            have f3 := World.ownsRow.frozenAt H11.out.rd 3
            have g0 := World.ownsRow.frozenAt H11.out.rr 0
            have g1 := World.ownsRow.frozenAt H11.out.rr 1
            have g2 := World.ownsRow.frozenAt H11.out.rr 2
            have i0 := World.ownsRow.frozenAt ho.1 0
            have i1 := World.ownsRow.frozenAt ho.1 1
            have i2 := World.ownsRow.frozenAt ho.1 2
            have Ho := Lib.hid ho.2
            clear ho
            unfold set4 at i0 i1 i2 u0 u1 u2
            obtain ⟨k0, k1, k2, k3⟩ := H11.out.cd
            go_wp2_with fail
            refine bodyPost_ret (results_cell22 rfl _ _ _ ⟨w.heap.size + 2, 0, none⟩ ⟨w.heap.size + 3, 0, none⟩ rfl rfl _ _ (load_own2D Ho.out.1) (load_ownR Ho.out.2.1)) rfl ?_
            rw [HE.out]
            exact ⟨_, _, _, _, none, 0, rfl, Ho.out.2.2.1, H11.out.eq, Sl.nil _ _, fun h => absurd rfl h, Ho.out.2.2.2.2⟩
        · have HE := Lib.hid (show R = (D3, rt0, e6) by rw [HW3.out]; simp only [putD, ha6, he6, ne_eq, not_false_eq_true, if_true])
          have he62 : (e6 == 0) = false := by simpa using he6
          clear ha6 he6
          have ho := H10.out.out 0 0 none 0 0
          obtain ⟨z0, z1, z2, z3⟩ := cells4 H10.out.rd
          obtain ⟨y0, y1, y2⟩ := cells3 H10.out.rr
          obtain ⟨u0, u1, u2⟩ := cells3 ho.1
          have f0 := World.ownsRow.frozenAt H10.out.rd 0
          have f1 := World.ownsRow.frozenAt H10.out.rd 1
          have f2 := World.ownsRow.frozenAt H10.out.rd 2
          have f3 := World.ownsRow.frozenAt H10.out.rd 3
          have g0 := World.ownsRow.frozenAt H10.out.rr 0
          have g1 := World.ownsRow.frozenAt H10.out.rr 1
          have g2 := World.ownsRow.frozenAt H10.out.rr 2
          have i0 := World.ownsRow.frozenAt ho.1 0
          have i1 := World.ownsRow.frozenAt ho.1 1
          have i2 := World.ownsRow.frozenAt ho.1 2
          have Ho := Lib.hid ho.2
          clear ho
          unfold set4 at i0 i1 i2 u0 u1 u2
          obtain ⟨k0, k1, k2, k3⟩ := H10.out.cd
          go_wp2_with fail
          refine bodyPost_ret (results_cell22 rfl _ _ _ ⟨w.heap.size + 2, 0, none⟩ ⟨w.heap.size + 3, 0, none⟩ rfl rfl _ _ (load_own2D Ho.out.1) (load_ownR Ho.out.2.1)) rfl ?_
          rw [HE.out]
          exact ⟨_, _, _, _, none, 0, rfl, Ho.out.2.2.1, H10.out.eq, Sl.nil _ _, fun h => absurd rfl h, Ho.out.2.2.2.2⟩
    · have HE := Lib.hid (show R = (D, rt0, e5) by rw [HW.out, if_pos he5])
      have he52 : (e5 == 0) = false := by simpa using he5
      clear he5
      have ho := H8.out.out 0 0 none 0 0
      obtain ⟨z0, z1, z2, z3⟩ := cells4 H8.out.rd
      obtain ⟨y0, y1, y2⟩ := cells3 H8.out.rr
      obtain ⟨u0, u1, u2⟩ := cells3 ho.1
      have f0 := World.ownsRow.frozenAt H8.out.rd 0
      have f1 := World.ownsRow.frozenAt H8.out.rd 1
      have f2 := World.ownsRow.frozenAt H8.out.rd 2
      have f3 := World.ownsRow.frozenAt H8.out.rd 3
      have g0 := World.ownsRow.frozenAt H8.out.rr 0
      have g1 := World.ownsRow.frozenAt H8.out.rr 1
      have g2 := World.ownsRow.frozenAt H8.out.rr 2
      have i0 := World.ownsRow.frozenAt ho.1 0
      have i1 := World.ownsRow.frozenAt ho.1 1
      have i2 := World.ownsRow.frozenAt ho.1 2
      have Ho := Lib.hid ho.2
      clear ho
      unfold set4 at i0 i1 i2 u0 u1 u2
      obtain ⟨k0, k1, k2, k3⟩ := H8.out.cd
      go_wp2_with fail
      refine bodyPost_ret (results_cell22 rfl _ _ _ ⟨w.heap.size + 2, 0, none⟩ ⟨w.heap.size + 3, 0, none⟩ rfl rfl _ _ (load_own2D Ho.out.1) (load_ownR Ho.out.2.1)) rfl ?_
      rw [HE.out]
      exact ⟨_, _, _, _, none, 0, rfl, Ho.out.2.2.1, H8.out.eq, Sl.nil _ _, fun h => absurd rfl h, Ho.out.2.2.2.2⟩
end
end Go.Proofs.YtemegkapmgcffaaGreat
