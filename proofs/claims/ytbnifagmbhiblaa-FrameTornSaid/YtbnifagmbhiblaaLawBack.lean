import Derived.Test.YtbnifagmbhiblaaFramedB
import Derived.Test.YtbnifagmbhiblaaPureBack
namespace Go.Proofs.Ytbnifagmbhiblaa
open Go.RowKit
set_option linter.unusedSimpArgs false
set_option linter.unusedVariables false

set_option maxRecDepth 100000 in
set_option maxHeartbeats 2000000 in
theorem walk_back (P A B C : Option Addr) (m d na pa nb pb nc pc : Nat) (qs : List Part) (a b c : List UInt8) (w : World) (hp : Ls w P m d qs) (hm : m ≤ 9223372036854775807)
    (sa : Sl w 1 A na pa (bytesV a)) (sb : Sl w 1 B nb pb (bytesV b)) (sc : Sl w 1 C nc pc (bytesV c)) :
    Calls Try.prog 13 #[.slice P m d, .slice A na pa, .slice B nb pb, .slice C nc pc] w fun e w' => e = .returned (.bool true) ∧ Below w.heap.size w w' := by
  by_cases h1 : 300 < na
  · go_enter Try.func13, Try.ntmps13
    go_wp2_with (go_at_call 47; refine (awake03_any _).mono ?_; rintro e w6 ⟨rfl, hn6⟩)
    go_ret
    exact ⟨rfl, hn6⟩
  by_cases h2 : 300 < nb
  · go_enter Try.func13, Try.ntmps13
    go_wp2_with (go_at_call 47; refine (awake03_any _).mono ?_; rintro e w6 ⟨rfl, hn6⟩)
    go_ret
    exact ⟨rfl, hn6⟩
  by_cases h3 : 1000 < nc
  · go_enter Try.func13, Try.ntmps13
    go_wp2_with (go_at_call 47; refine (awake03_any _).mono ?_; rintro e w6 ⟨rfl, hn6⟩)
    go_ret
    exact ⟨rfl, hn6⟩
  obtain ⟨gs, hgs⟩ : ∃ gs, gs = goods qs 20 := ⟨_, rfl⟩
  have hgl : gs.length ≤ 20 := by rw [hgs]; exact goods_len qs 20
  have hgq : ∀ q ∈ gs, 0 < q.l.length ∧ q.l.length ≤ 200 := by
    intro q hq
    rw [hgs] at hq
    have h4 := goods_good qs 20 q hq
    have h5 := (hp.each q h4.2).blen
    have h6 := h4.1
    simp [goodB] at h6
    omega
  have hfl := frames_len_le gs (fun q hq => (hgq q hq).2)
  have Hgq := Lib.hid hgq
  have Hla := Lib.hid sa.blen
  have Hlb := Lib.hid sb.blen
  clear hgq
  go_enter Try.func13, Try.ntmps13
  go_wp2_with fail
  refine (framed_any P m d qs _ hp hm).mono ?_; rintro e w1 ⟨A1, n1, c1, A2, n2, c2, A3, n3, c3, rfl, sf, hl, _, hb1⟩
  rw [← hgs] at sf hl
  have sa1 := sa.below hb1
  have sb1 := sb.below hb1
  have sc1 := sc.below hb1
  have hn1 := sf.blen
  have hn2 := hl.len
  have hn1b : n1 ≤ 4300 := by omega
  have hn2b : n2 ≤ 20 := by omega
  have Hn1 := Lib.hid hn1
  have Hn2 := Lib.hid hn2
  clear hgs hp sa sb sc hn1 hn2 hfl
  go_upto_block 0 with (first | (go_at_call 24; refine (copyBytes_any _ _ _ a _ sa1 (by omega)).mono ?_; rintro e w2 ⟨rfl, hown2, hb2⟩) | (at_builtin; refine wpList_app _ rfl (.tmp 48) (.tmp 49) 26 rfl w1.heap.size 5 (.int .u8 0) 1 1 Try.underlying26 infoByte rfl (by decide) _ na na (bytesV a) rfl (.inl hown2) A1 n1 c1 (bytesV (frames gs)) rfl (sf.below hb2) (bytesV_one _) (by unfold maxLen; omega) (by omega) hb2.size ?_; intro A4 d4 w4 hat4; have hb4 := hb2.trans (hat4.below hb2.size)) | (at_builtin; refine wpList_app _ rfl (.tmp 50) (.tmp 51) 26 rfl w1.heap.size 5 (.int .u8 0) 1 1 Try.underlying26 infoByte rfl (by decide) A4 (na + n1) d4 _ rfl hat4.app B nb pb (bytesV b) rfl (sb1.below hb4) (bytesV_one _) (by unfold maxLen; omega) (by omega) hb4.size ?_; intro A5 d5 w5 hat5; have hb5 := hb4.trans (hat5.below hb4.size)))
  have sall := hat5.app.sl
  rw [← bytesV_append, ← bytesV_append] at sall
  have hbA := hb1.trans (hb5.mono hb1.size)
  have hl5 := hl.below hb5
  have sc5 := sc1.below hb5
  clear hat5 hat4 hb4 hb5 hown2 sf sa1 sb1 sc1 hb1 hl hb2
  go_cut [14] (fun s wx => s = .int .i64 ((na + n1 : Nat) : Int) ∧ Below w5.heap.size w5 wx)
  case first =>
    go_wp2_with fail
    go_loopw [14, 15] (fun s iv wx => ∃ i pl : Nat, i ≤ n2 ∧ iv = .int .i64 (i : Nat) ∧ s = .int .i64 (pl : Int) ∧ Hid (pl = na + (frames (gs.take i)).length) ∧ Below w5.heap.size w5 wx) (fun _ iv _ => n2 - (intOf iv).toNat)
    case atStart => exact ⟨0, na, by omega, rfl, rfl, Lib.hid (by simp [frames]), Below.refl _ _⟩
    case round =>
      obtain ⟨i, pl, hi, rfl, rfl, Hpl, hbx⟩ := hrel
      by_cases hlt : i < n2
      · obtain ⟨q, hq⟩ := get_some gs i (by rw [Hn2.out]; exact hlt)
        have hq2 := Hgq.out q (List.mem_of_getElem? hq)
        obtain ⟨⟨ad, rfl, hcell⟩, hsq⟩ := (hl5.below hbx).at_ hq
        have hfg : fg (a ++ frames gs ++ b) (pl : Int) = (q.l, na + (frames (gs.take (i + 1))).length, 0) := by
          rw [Hpl.out]
          have hkl := (List.getElem?_eq_some_iff.1 hq).1
          have hx := (List.getElem?_eq_some_iff.1 hq).2
          have e1 : gs = gs.take i ++ q :: gs.drop (i + 1) := by rw [← hx, List.getElem_cons_drop, List.take_append_drop]
          have e2 : frames gs = frames (gs.take i) ++ (frm q.l ++ frames (gs.drop (i + 1))) := by
            conv => lhs; rw [e1]
            simp [frames]
          have e3 : gs.take (i + 1) = gs.take i ++ [q] := by rw [List.take_succ_eq_append_getElem hkl, hx]
          have h := fg_frm (a ++ frames (gs.take i)) q.l (frames (gs.drop (i + 1)) ++ b) ((na + (frames (gs.take i)).length : Nat) : Int) (by rw [List.length_append, Hla.out]) hq2.1 (by omega)
          rw [e3, frames_snoc, e2]
          rw [List.length_append, Hla.out] at h
          simp only [List.append_assoc, List.length_append, Nat.add_assoc] at h ⊢
          exact h
        have Hfg := Lib.hid hfg
        have hin : (0 : Int) ≤ (i : Int) ∧ (i : Int) < (n2 : Int) := by omega
        have sx := sall.below hbx
        obtain ⟨qA, qn, qc, ql⟩ := q
        dsimp only at hcell hsq hq2
        clear hfg hq
        go_wp2_with fail
        refine (get_any _ _ _ (a ++ frames gs ++ b) _ _ sx (by omega)).mono ?_; rintro e w7 ⟨v, rfl, hown7, hb7⟩
        rw [Hfg.out] at hown7 ⊢
        obtain ⟨A7, c7, rfl, hs7, _⟩ := own_form hown7
        have hsq7 := hsq.below hb7
        have hbx7 := hbx.trans (hb7.mono hbx.size)
        obtain ⟨ad7, had7, hcell7⟩ : ∃ ad7, some ad = some ad7 ∧ w7.cell? (ad7.add i) = some (.slice qA qn qc) := ⟨ad, rfl, by
          have h8 := World.block_lt_of_cell? _ _ hcell
          rw [World.cell?_of_block (w := wr) (hb7.block _ h8)]; exact hcell⟩
        cases had7
        dsimp only at hs7 ⊢
        clear hown7 hcell hsq sx hb7 hbx
        go_wp2_with fail
        refine (sameBytes_lit _ _ _ _ _ _ ql ql true _ hs7 hsq7 (by simp)).mono ?_; rintro e w8 ⟨rfl, hb8⟩
        go_wp2_with fail
        go_roundw
        case rel => exact ⟨i + 1, _, by omega, by go_num, rfl, Lib.hid rfl, hbx7.trans (hb8.mono hbx7.size)⟩
        case measure => simp [intOf]; omega
      · obtain rfl : i = n2 := by omega
        go_wp2_with fail
        go_meet
        exact ⟨by rw [Hpl.out, ← Hn2.out, List.take_length, Hn1.out], hbx⟩
  case rest =>
    obtain ⟨rfl, hbx⟩ := hcut
    have sc6 := sc5.below hbx
    have hbB := hbA.trans (hbx.mono hbA.size)
    have Hlc := Lib.hid sc6.blen
    obtain ⟨⟨x, nx, er⟩, hg⟩ : ∃ g, fg c 0 = g := ⟨_, rfl⟩
    have Hg := Lib.hid hg
    clear sc5 hbx hbA sall hl5
    generalize wc = w6 at *
    by_cases he : er = 0
    · subst he
      obtain ⟨b1, b2, b3, b4⟩ := fg_back hg
      rw [Hlc.out] at b3
      have hcut := cutb_to .i64 C nc pc nx (nx : Int) rfl (Nat.le_trans b3 sc6.le)
      have hle : ¬ (nc : Int) < (nx : Int) := by omega
      have Hb4 := Lib.hid b4
      clear hg b4
      go_wp2_with fail
      refine (get_any _ _ _ c _ _ sc6 (by omega)).mono ?_; rintro e w7 ⟨v, rfl, hown7, hb7⟩
      rw [Hg.out] at hown7 ⊢
      obtain ⟨A7, c7, rfl, hs7, _⟩ := own_form hown7
      have sc7 := sc6.below hb7
      have hbC := hbB.trans (hb7.mono hbB.size)
      dsimp only at hs7 ⊢
      clear hown7 sc6 hb7 hbB
      go_wp2_with fail
      refine (put_nil _ _ _ x _ hs7 b1 b2).mono ?_; rintro e w8 ⟨A8, n8, c8, rfl, happ8, hb8⟩
      have hs8 := happ8.sl
      have sc8 := slb_to (sc7.below hb8) nx b3
      have hbD := hbC.trans (hb8.mono hbC.size)
      clear happ8 sc7 hb8 hbC hs7
      go_wp2_with fail
      refine (sameBytes_lit _ _ _ _ _ _ (frm x) (c.take nx) true _ hs8 sc8 (by rw [Hb4.out]; simp)).mono ?_; rintro e w9 ⟨rfl, hb9⟩
      have hbE := hbD.trans (hb9.mono hbD.size)
      clear hs8 sc8 hb9 hbD
      go_wp2_with (go_at_call 47; refine (awake03_any _).mono ?_; rintro e w6 ⟨rfl, hn6⟩)
      go_ret
      exact ⟨rfl, hbE.trans (hn6.mono hbE.size)⟩
    · have heb : ((er : Int) == 0) = false := by simp; omega
      clear hg
      go_wp2_with fail
      refine (get_any _ _ _ c _ _ sc6 (by omega)).mono ?_; rintro e w7 ⟨v, rfl, _, hb7⟩
      rw [Hg.out]
      have hbC := hbB.trans (hb7.mono hbB.size)
      clear sc6 hb7 hbB
      dsimp only
      go_wp2_with (go_at_call 47; refine (awake03_any _).mono ?_; rintro e w6 ⟨rfl, hn6⟩)
      go_ret
      exact ⟨rfl, hbC.trans (hn6.mono hbC.size)⟩
end Go.Proofs.Ytbnifagmbhiblaa
