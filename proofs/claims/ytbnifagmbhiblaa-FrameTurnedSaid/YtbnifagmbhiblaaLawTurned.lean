import Derived.Test.YtbnifagmbhiblaaFrameLaw
import Derived.Test.YtbnifagmbhiblaaPureTurned
import Derived.Test.YtbnifagmbhiblaaPick
import Derived.Deep.CutBlock
import Derived.Deep.DeepCutAuto
import Derived.StillTailTactics
namespace Go.Proofs.Ytbnifagmbhiblaa
open Go.RowKit
set_option linter.unusedSimpArgs false
set_option linter.unusedVariables false

set_option maxRecDepth 100000 in
set_option maxHeartbeats 2000000 in
theorem walk_turned (B : Option Addr) (n p : Nat) (b : List UInt8) (at_ : Int) (y0 y1 y2 y3 last : UInt8) (w : World) (hs : Sl w 1 B n p (bytesV b)) :
    Calls Try.prog 14 #[.slice B n p, .int .i64 at_, .agg #[.int .u8 (y0.toNat : Int), .int .u8 (y1.toNat : Int), .int .u8 (y2.toNat : Int), .int .u8 (y3.toNat : Int)], .int .u8 (last.toNat : Int)] w fun e w' => e = .returned (.bool true) ∧ Below w.heap.size w w' := by
  have hbox : Sl (w.alloc (.cells #[.int .u8 (y0.toNat : Int), .int .u8 (y1.toNat : Int), .int .u8 (y2.toNat : Int), .int .u8 (y3.toNat : Int)] 71)) 1 (some ⟨w.heap.size, 0, none⟩) 4 4 (bytesV [y0, y1, y2, y3]) := sl_new w [y0, y1, y2, y3] 71 4 rfl
  have hb0 := below_alloc1 w (.cells #[.int .u8 (y0.toNat : Int), .int .u8 (y1.toNat : Int), .int .u8 (y2.toNat : Int), .int .u8 (y3.toNat : Int)] 71)
  by_cases h1 : n = 0
  · subst h1
    go_enter Try.func14, Try.ntmps14
    go_wp2_with (go_at_call 47; refine (awake03_any _).mono ?_; rintro e w6 ⟨rfl, hn6⟩)
    go_ret
    exact ⟨rfl, hb0.trans (hn6.mono hb0.size)⟩
  have h1b : ((n : Int) == 0) = false := by simp; omega
  by_cases h2 : 300 < n
  · go_enter Try.func14, Try.ntmps14
    go_wp2_with (go_at_call 47; refine (awake03_any _).mono ?_; rintro e w6 ⟨rfl, hn6⟩)
    go_ret
    exact ⟨rfl, hb0.trans (hn6.mono hb0.size)⟩
  have Hl := Lib.hid hs.blen
  have hs0 := hs.below hb0
  go_enter Try.func14, Try.ntmps14
  go_wp2_with fail
  generalize w.alloc (.cells #[.int .u8 (y0.toNat : Int), .int .u8 (y1.toNat : Int), .int .u8 (y2.toNat : Int), .int .u8 (y3.toNat : Int)] 71) = w0 at *
  obtain ⟨ys, hys⟩ : ∃ ys, ys = [y0, y1, y2, y3] := ⟨_, rfl⟩
  have hy4 : ys.length = 4 := by rw [hys]; rfl
  rw [← hys] at hbox
  clear hys
  refine (put_nil _ _ _ b _ hs0 (by omega) (by omega)).mono ?_; rintro e w1 ⟨A1, n1, c1, rfl, happ, hb1⟩
  have hsb := happ.sl
  have hbox1 := hbox.below hb1
  have hbA := hb0.trans (hb1.mono hb0.size)
  have hblk : w.heap.size < w0.heap.size := hbox.block_lt (by omega)
  obtain ⟨u, hu⟩ : ∃ u, u = (uv n).length := ⟨_, rfl⟩
  have hu1 := uv_pos n
  have hu2 := uv_len_ten n (by omega)
  have hn1 : n1 = u + n + 5 := by rw [← hsb.blen, frm_len, Hl.out, hu]
  have hfr : (n1 : Int) - 5 - (n : Int) = (u : Int) := by omega
  have hn6 : ¬ (n1 : Int) < (n : Int) + 6 := by omega
  rw [← hu] at hu1 hu2
  have Hu := Lib.hid hu
  have Hn1 := Lib.hid hn1
  have Hy4 := Lib.hid hy4
  have hn1k : n1 ≤ 1000 := by omega
  have hz1 := hb1.size
  clear hs hs0 hbox hb0 hb1 happ hu hn1 hy4
  go_wp2_with fail
  refine (pick_any _ n _ (by omega) (by omega)).mono ?_; rintro e w2 ⟨⟨m, hm, rfl⟩, rfl⟩
  go_upto_block 0 with (go_at_call 24; refine (copyBytes_any _ _ _ (frm b) _ hsb (by omega)).mono ?_; rintro e w3 ⟨rfl, hown3, hb3⟩)
  go_cut [13] (fun s wx => ∃ (i : Nat) (bs : List UInt8) (z : Bool), i ≤ 4 ∧ (i = 4 ∨ n ≤ m + i) ∧ s = .bool z ∧ (z = true ↔ accB ys i ≠ 0#32) ∧ SeenB b m ys i bs ∧ wx.ownsRow w1.heap.size 5 1 (.slice (some ⟨w1.heap.size, 0, none⟩) n1 n1) n1 (bytesV (uv n ++ (bs ++ (crc4 (crc b) ++ [165])))) ∧ Below w1.heap.size w1 wx)
  case first =>
    go_wp2_with fail
    go_loopw [13, 14] (fun s iv wx => ∃ (i : Nat) (bs : List UInt8) (z : Bool), i ≤ 4 ∧ iv = .int .i64 (i : Nat) ∧ s = .bool z ∧ (z = true ↔ accB ys i ≠ 0#32) ∧ SeenB b m ys i bs ∧ wx.ownsRow w1.heap.size 5 1 (.slice (some ⟨w1.heap.size, 0, none⟩) n1 n1) n1 (bytesV (uv n ++ (bs ++ (crc4 (crc b) ++ [165])))) ∧ Below w1.heap.size w1 wx) (fun _ iv _ => 4 - (intOf iv).toNat)
    case atStart => exact ⟨0, b, false, by omega, rfl, rfl, by simp [accB], seenB_zero _ _ _, by have := hown3; unfold frm at this; rw [Hl.out] at this; exact this, hb3⟩
    case round =>
      obtain ⟨i, bs, z, hi, rfl, rfl, hz, hseen, hown, hbx⟩ := hrel
      have Hz := Lib.hid hz
      have Hs := Lib.hid hseen
      clear hz hseen hown3 hb3
      by_cases hlt : i < 4
      · by_cases hf : m + i < n
        · obtain ⟨x, hx⟩ := get_some bs (m + i) (by rw [Hs.out.1, Hl.out]; exact hf)
          obtain ⟨y, hy⟩ := get_some ys i (by rw [Hy4.out]; exact hlt)
          have hlist : (uv n ++ (bs ++ (crc4 (crc b) ++ [165])))[u + m + i]? = some x := by
            rw [List.getElem?_append_right (by rw [← Hu.out]; omega), ← Hu.out, show u + m + i - u = m + i by omega, List.getElem?_append_left (List.getElem?_eq_some_iff.1 hx).1]
            exact hx
          have hcell : wr.cell? ⟨w1.heap.size, u + m + i, none⟩ = some (.int .u8 (x.toNat : Int)) := by
            rw [hown.cellAt (u + m + i) (by have := Hn1.out; omega)]
            simp only [bytesV, List.getElem?_map, hlist]; rfl
          have hfro := hown.frozenAt (u + m + i)
          have hboxr := hbox1.below hbx
          have hyc : wr.cell? ⟨w.heap.size, i, none⟩ = some (.int .u8 (y.toNat : Int)) := by
            obtain ⟨ad, h1, h2⟩ := hboxr.byteAt hy
            cases h1
            rwa [add_plain] at h2
          obtain ⟨v, hv⟩ : ∃ v, v = x ^^^ y := ⟨_, rfl⟩
          have hxb : Go.bits .xor .u8 (x.toNat : Int) (y.toNat : Int) = (v.toNat : Int) := by rw [hv]; exact xor_bits_any x y
          have hgd : ys.getD i 0 = y := by rw [List.getD_eq_getElem?_getD, hy]; rfl
          have hset : (uv n ++ (bs ++ (crc4 (crc b) ++ [165]))).set (u + m + i) v = uv n ++ (bs.set (m + i) v ++ (crc4 (crc b) ++ [165])) := by
            rw [List.set_append_right _ _ (by rw [← Hu.out]; omega), ← Hu.out, show u + m + i - u = m + i by omega, List.set_append_left _ _ (List.getElem?_eq_some_iff.1 hx).1]
          have hsn : SeenB b m ys (i + 1) (bs.set (m + i) v) := by
            have := seenB_step Hs.out hlt (by rw [Hl.out]; exact hf) hx
            rwa [hgd, ← hv] at this
          have haz := accB_zero ys i hlt
          rw [hgd] at haz
          have Hset := Lib.hid hset
          have Hsn := Lib.hid hsn
          have Haz := Lib.hid haz
          have hw1 : IntKind.i64.wrap ((u : Int) + (m : Int)) = (u : Int) + (m : Int) := IntWalk.i64_in _ (by omega)
          have hw2 : IntKind.i64.wrap ((u : Int) + (m : Int) + (i : Int)) = (u : Int) + (m : Int) + (i : Int) := IntWalk.i64_in _ (by omega)
          have hnn : ((u : Int) + (m : Int) + (i : Int)).toNat = u + m + i := by omega
          have hin : (0 : Int) ≤ (u : Int) + (m : Int) + (i : Int) ∧ (u : Int) + (m : Int) + (i : Int) < (n1 : Int) := by have := Hn1.out; omega
          have hin2 : (0 : Int) ≤ (i : Int) ∧ (i : Int) < 4 := by omega
          clear hx hy hlist hgd hset hsn haz hv
          go_wp2_with fail
          go_still_tail 13, (by kernel_rfl)
          change wpList _ _ _ _ _ wr.drew
          have hcell2 : wr.drew.cell? ⟨w1.heap.size, u + m + i, none⟩ = some (.int .u8 (x.toNat : Int)) := hcell
          have hfro2 : wr.drew.frozen? ⟨w1.heap.size, u + m + i, none⟩ = false := hfro
          have hst := World.ownsRow.stored (w := wr.drew) (h := hown) (u + m + i) (.int .u8 (v.toNat : Int))
          have hbd := hbx.drew
          have hyc2 : (wr.drew.setCell ⟨w1.heap.size, u + m + i, none⟩ (.int .u8 (v.toNat : Int))).cell? ⟨w.heap.size, i, none⟩ = some (.int .u8 (y.toNat : Int)) := by
            rw [World.cell?_of_block (w := wr.drew) (Below.heap_setCell _ _ _ _ (by simp; omega))]; exact hyc
          have hrel2 : Below w1.heap.size w1 (wr.drew.setCell ⟨w1.heap.size, u + m + i, none⟩ (.int .u8 (v.toNat : Int))) := hbd.setCell (Nat.le_refl _) _
          have hst1 := hst.1
          have hbv : (bytesV (uv n ++ (bs ++ (crc4 (crc b) ++ [165])))).set (u + m + i) (.int .u8 (v.toNat : Int)) = bytesV (uv n ++ (bs.set (m + i) v ++ (crc4 (crc b) ++ [165]))) := by
            rw [← Hset.out, bytesV, bytesV, List.map_set]; rfl
          rw [hbv] at hst1
          clear hst hbv hcell hfro hyc hboxr hown hbx hbd
          generalize wr.drew = w2 at *
          cases z with
          | true =>
            have hz2 : true = true ↔ accB ys (i + 1) ≠ 0#32 := by
              have h1 := Hz.out
              have h2 := Haz.out
              simp only [true_iff] at h1 ⊢
              exact fun e => h1 (h2.1 e).1
            have Hz2 := Lib.hid hz2
            clear hz2
            go_wp2_with fail
            go_roundw
            case rel => exact ⟨i + 1, _, true, by omega, by go_num, rfl, Hz2.out, Hsn.out, hst1, hrel2⟩
            case measure => simp [intOf]; omega
          | false =>
            have hz2 : ((y.toNat : Int) != 0) = true ↔ accB ys (i + 1) ≠ 0#32 := by
              have h1 := Hz.out
              have h2 := Haz.out
              have h3 : ((y.toNat : Int) != 0) = true ↔ y ≠ 0 := by
                rw [bne_iff_ne]
                constructor
                · intro h e; apply h; rw [e]; rfl
                · intro h e; apply h; exact UInt8.toNat_inj.1 (by simpa using e)
              rw [h3]
              have h4 : accB ys i = 0#32 := by
                apply Classical.byContradiction; intro hn; exact absurd (h1.2 hn) (by simp)
              exact not_congr ⟨fun e => h2.2 ⟨h4, e⟩, fun e => (h2.1 e).2⟩
            have Hz2 := Lib.hid hz2
            clear hz2
            go_wp2_with fail
            go_roundw
            case rel => exact ⟨i + 1, _, _, by omega, by go_num, rfl, Hz2.out, Hsn.out, hst1, hrel2⟩
            case measure => simp [intOf]; omega
        · go_wp2_with fail
          go_meet
          exact ⟨i, bs, z, hi, .inr (by omega), rfl, Hz.out, Hs.out, hown, hbx⟩
      · go_wp2_with fail
        go_meet
        exact ⟨i, bs, z, hi, .inl (by omega), rfl, Hz.out, Hs.out, hown, hbx⟩
  case rest =>
    obtain ⟨i, bs, z, hi, hend, rfl, hz, hseen, hown, hbx⟩ := hcut
    have hcr := seenB_end hseen
    have hbl := hseen.1
    rw [Hl.out] at hbl
    have hsx := ownsRow_sl hown
    have hsb2 := hsb.below hbx
    have hbB := hbA.trans (hbx.mono hbA.size)
    obtain ⟨F, hF⟩ : ∃ F, F = (fg (uv n ++ (bs ++ (crc4 (crc b) ++ [165]))) 0).2.2 := ⟨_, rfl⟩
    have hF2 : F = if z = true then 12 else 0 := by
      have h := fg_put bs [] (crc b) 165 (by omega) (by omega)
      rw [hbl, if_pos rfl] at h
      rw [hF, h]
      by_cases hc : crc bs = crc b
      · have : ¬ z = true := fun e => hz.1 e (hcr.1 hc)
        rw [if_pos hc, if_neg this]
      · have : z = true := hz.2 (fun e => hc (hcr.2 e))
        rw [if_neg hc, if_pos this]
    have HF := Lib.hid hF
    have HF2 := Lib.hid hF2
    clear hF hF2 hz hseen hcr hown hown3 hb3 hend hbl hbx hbA hsb hbox1 hi
    generalize wc = w4 at *
    go_wp2_with fail
    refine (copyBytes_any _ _ _ (frm b) _ hsb2 (by omega)).mono ?_; rintro e w5 ⟨rfl, hown5, hb5⟩
    obtain ⟨k, hk⟩ : ∃ k, n1 = k + 1 := ⟨n1 - 1, by omega⟩
    have hsx5 := hsx.below hb5
    have hpre : frm b = (uv n ++ (b ++ crc4 (crc b))) ++ [165] := by simp [frm, Hl.out]
    have hprel : (uv n ++ (b ++ crc4 (crc b))).length = k := by
      have h1 := Hn1.out
      simp [crc4_len, Hl.out, ← Hu.out]; omega
    have hcell : w5.cell? ⟨w4.heap.size, k, none⟩ = some (.int .u8 165) := by
      rw [hown5.cellAt k (by omega), hpre]
      simp only [bytesV, List.getElem?_map]
      rw [← hprel]; simp [byteV]
    have hfro := hown5.frozenAt k
    have hst := hown5.stored k (.int .u8 (last.toNat : Int))
    have hst1 := hst.1
    have hbv : (bytesV (frm b)).set k (.int .u8 (last.toNat : Int)) = bytesV (uv n ++ (b ++ (crc4 (crc b) ++ [last]))) := by
      have e1 : uv n ++ (b ++ (crc4 (crc b) ++ [last])) = (uv n ++ (b ++ crc4 (crc b))) ++ [last] := by simp
      rw [hpre, e1]
      generalize uv n ++ (b ++ crc4 (crc b)) = L at hprel ⊢
      rw [bytesV_append, bytesV_append, List.set_append_right _ _ (by rw [bytesV_length, hprel]; exact Nat.le_refl _), bytesV_length, hprel, Nat.sub_self]; rfl
    rw [hbv] at hst1
    have hb6 : Below w4.heap.size w4 (w5.setCell ⟨w4.heap.size, k, none⟩ (.int .u8 (last.toNat : Int))) := hb5.setCell (Nat.le_refl _) _
    have hsx6 := hsx.below hb6
    have hwk : wrap64 (k : Int) = (k : Int) := IntWalk.wrap64_in _ (by omega)
    have hwk2 : IntKind.i64.wrap (k : Int) = (k : Int) := IntWalk.i64_in _ (by omega)
    have hin : (0 : Int) ≤ (k : Int) ∧ (k : Int) < (k : Int) + 1 := by omega
    have hk1k : k + 1 ≤ 1000 := by omega
    have hG : (fg (uv n ++ (b ++ (crc4 (crc b) ++ [last]))) 0).2.2 = if last = 165 then 0 else 10 := by
      have h := fg_put b [] (crc b) last (by rw [Hl.out]; omega) (by rw [Hl.out]; omega)
      rw [Hl.out] at h
      rw [h]; simp
    have HG := Lib.hid hG
    have Hk := Lib.hid hk
    clear hpre hprel hst hbv hsx hsx5 hown5 hsb2 hG hb5 hfr
    subst hk
    go_wp2_with fail
    generalize w5.setCell ⟨w4.heap.size, k, none⟩ (.int .u8 (last.toNat : Int)) = w6 at *
    refine (get_any _ _ _ (uv n ++ (bs ++ (crc4 (crc b) ++ [165]))) _ _ hsx6 (by omega)).mono ?_; rintro e w7 ⟨v7, rfl, _, hb7⟩
    rw [← HF.out]
    generalize (fg (uv n ++ (bs ++ (crc4 (crc b) ++ [165]))) 0).2.1 = q7
    have hsy := (ownsRow_sl hst1).below hb7
    have hbC := hbB.trans ((hb6.trans (hb7.mono hb6.size)).mono hbB.size)
    go_wp2_with fail
    refine (get_any _ _ _ (uv n ++ (b ++ (crc4 (crc b) ++ [last]))) _ _ hsy (by omega)).mono ?_; rintro e w8 ⟨v8, rfl, _, hb8⟩
    rw [HG.out]
    generalize (fg (uv n ++ (b ++ (crc4 (crc b) ++ [last]))) 0).2.1 = q8
    have hbD := hbC.trans (hb8.mono hbC.size)
    clear hsy hsx6 hst1 hcell hfro hb6 hb7 hb8 hbC hbB
    have hF2 := HF2.out
    subst hF2
    by_cases hl : last = 165
    · subst hl
      simp only [if_true]
      cases z
      all_goals
        simp only [if_true, if_false, Bool.false_eq_true]
        go_wp2_with (go_at_call 47; refine (awake03_any _).mono ?_; rintro e w9 ⟨rfl, hn9⟩)
        go_ret
        exact ⟨rfl, hbD.trans (hn9.mono hbD.size)⟩
    · have hl1 : ((last.toNat : Int) == 165) = false := by
        simp; intro h; exact hl (UInt8.toNat_inj.1 (by simp; omega))
      have hl2 : ((last.toNat : Int) != 165) = true := by rw [bne, hl1]; rfl
      simp only [if_neg hl]
      cases z
      all_goals
        simp only [if_true, if_false, Bool.false_eq_true]
        go_wp2_with (go_at_call 47; refine (awake03_any _).mono ?_; rintro e w9 ⟨rfl, hn9⟩)
        go_ret
        exact ⟨rfl, hbD.trans (hn9.mono hbD.size)⟩

theorem byte_wf {a : Int} (h : (Lit.int .u8 a).wf = true) : ∃ x : UInt8, a = (x.toNat : Int) := by
  simp [Lit.wf, IntKind.min, IntKind.max, IntKind.signed, IntKind.bits] at h
  exact ⟨UInt8.ofNat a.toNat, by rw [UInt8.toNat_ofNat']; omega⟩
theorem walk_frameTurned (B : Option Addr) (n p : Nat) (b : List UInt8) (at_ z0 z1 z2 z3 z4 : Int) (w : World) (hs : Sl w 1 B n p (bytesV b))
    (h0 : (Lit.int .u8 z0).wf = true) (h1 : (Lit.int .u8 z1).wf = true) (h2 : (Lit.int .u8 z2).wf = true) (h3 : (Lit.int .u8 z3).wf = true) (h4 : (Lit.int .u8 z4).wf = true) :
    Calls Try.prog 14 #[.slice B n p, .int .i64 at_, .agg #[.int .u8 z0, .int .u8 z1, .int .u8 z2, .int .u8 z3], .int .u8 z4] w fun e w' => e = .returned (.bool true) ∧ Below w.heap.size w w' := by
  obtain ⟨x0, rfl⟩ := byte_wf h0
  obtain ⟨x1, rfl⟩ := byte_wf h1
  obtain ⟨x2, rfl⟩ := byte_wf h2
  obtain ⟨x3, rfl⟩ := byte_wf h3
  obtain ⟨x4, rfl⟩ := byte_wf h4
  exact walk_turned B n p b at_ x0 x1 x2 x3 x4 w hs
end Go.Proofs.Ytbnifagmbhiblaa
