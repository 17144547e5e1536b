import Derived.Test.YtbnifagmbhiblaaRefF
import Derived.Test.YtbnifagmbhiblaaPureFrame
import Derived.StillTailTactics
namespace Go.Proofs.Ytbnifagmbhiblaa
open Go.RowKit
set_option linter.unusedSimpArgs false
set_option linter.unusedVariables false

theorem crc5_cells (r : BitVec 32) : (#[.int .u8 ((r.toNat : Int) / 16777216), .int .u8 ((r.toNat : Int) / 65536 % 256), .int .u8 ((r.toNat : Int) / 256 % 256), .int .u8 ((r.toNat : Int) % 256), .int .u8 165] : Array Value) = (bytesV (crc4 r ++ [165])).toArray := by
  have := r.isLt
  simp only [bytesV, crc4, byteV, List.map_cons, List.map_nil, UInt8.toNat_ofNat', List.cons_append, List.nil_append]
  congr 5 <;> first | omega | rfl
theorem sl_sum5 (w : World) (r : BitVec 32) : Sl (w.alloc (.cells #[.int .u8 ((r.toNat : Int) / 16777216), .int .u8 ((r.toNat : Int) / 65536 % 256), .int .u8 ((r.toNat : Int) / 256 % 256), .int .u8 ((r.toNat : Int) % 256), .int .u8 165] 5)) 1 (some ⟨w.heap.size, 0, none⟩) 5 5 (bytesV (crc4 r ++ [165])) := by
  rw [crc5_cells]
  exact sl_new w (crc4 r ++ [165]) 5 5 rfl

set_option maxRecDepth 100000 in
set_option maxHeartbeats 1000000 in
theorem refFrame_any (A : Option Addr) (n c : Nat) (l : List UInt8) (w : World) (hs : Sl w 1 A n c (bytesV l)) (hn : n ≤ 1000000) :
    Calls Try.prog 65 #[.slice A n c] w fun e w' => ∃ A' m c', e = .returned (.slice A' m c') ∧ Sl w' 1 A' m c' (bytesV (frm l)) ∧ Below w.heap.size w w' := by
  have hu := uv_len_ten n (by omega)
  have Hl := Lib.hid hs.blen
  go_enter Try.func65, Try.ntmps65
  go_wp2_with fail
  refine (refVarint_any n _ (by omega)).mono ?_; rintro e w1 ⟨A1, m1, c1, rfl, happ, hb1⟩
  have hm1 : m1 ≤ 10 := by have := happ.sl.blen; omega
  go_wp2_with (first | (at_builtin; refine wpList_app _ rfl (.tmp 9) (.tmp 10) 26 rfl w.heap.size 5 (.int .u8 0) 1 1 Try.underlying26 infoByte rfl (by decide) A1 m1 c1 _ rfl happ A n c (bytesV l) rfl (hs.below hb1) (bytesV_one _) (by unfold maxLen; omega) (by omega) hb1.size ?_; intro A2 d2 w2 hat2; have hb2 := hb1.trans (hat2.below hb1.size)) | (go_at_call 36; refine (refCrc_any _ _ _ l _ (hs.below hb2) hn).mono ?_; rintro e w3 ⟨rfl, hb3⟩; have hbA := hb2.trans (hb3.mono hb2.size)) | (at_builtin; refine wpList_app _ rfl (.tmp 14) (.tmp 26) 26 rfl w.heap.size 5 (.int .u8 0) 1 1 Try.underlying26 infoByte rfl (by decide) A2 (m1 + n) d2 _ rfl ((hat2.app.below hb3).alloc _) _ _ _ _ rfl (sl_sum5 _ _) (bytesV_one _) (by unfold maxLen; omega) (by omega) (by simp; have := hbA.size; omega) ?_; intro A4 d4 w4 hat4; have hbB := (hbA.alloc hbA.size (.cells #[.int .u8 (((crc l).toNat : Int) / 16777216), .int .u8 (((crc l).toNat : Int) / 65536 % 256), .int .u8 (((crc l).toNat : Int) / 256 % 256), .int .u8 (((crc l).toNat : Int) % 256), .int .u8 165] 5)).trans (hat4.below (by simp; have := hbA.size; omega))))
  go_ret
  have h5 := hat4.app.sl
  rw [← bytesV_append, ← bytesV_append] at h5
  refine ⟨_, _, _, rfl, ?_, hbB⟩
  have e : frm l = uv n ++ l ++ (crc4 (crc l) ++ [165]) := by unfold frm; rw [Hl.out]; simp
  rw [e]
  exact h5

set_option maxRecDepth 100000 in
set_option maxHeartbeats 1000000 in
theorem refPut_none (A B : Option Addr) (n c d : Nat) (w : World) :
    Calls Try.prog 48 #[.slice A n c, .slice B 0 d] w fun e w' => e = .returned (.tuple #[.slice none 0 0, .int .i64 2]) ∧ Below w.heap.size w w' := by
  go_enter Try.func48, Try.ntmps48
  go_wp2_with fail
  go_ret2
  exact ⟨rfl, Below.refl _ _⟩

set_option maxRecDepth 100000 in
set_option maxHeartbeats 1000000 in
theorem refPut_any (A B : Option Addr) (n c m d : Nat) (l b : List UInt8) (w : World) (hs : Sl w 1 A n c (bytesV l)) (ht : Sl w 1 B m d (bytesV b)) (hn : n ≤ 1000000) (hm0 : 0 < m) (hm : m ≤ 1000000) :
    Calls Try.prog 48 #[.slice A n c, .slice B m d] w fun e w' => ∃ A' m' c', e = .returned (.tuple #[.slice A' m' c', .int .i64 0]) ∧ Sl w' 1 A' m' c' (bytesV (l ++ frm b)) ∧ Below w.heap.size w w' := by
  have h0 : ((m : Int) == 0) = false := by simp; omega
  have hfl := frm_len b
  have hu := uv_len_ten m (by omega)
  rw [ht.blen] at hfl
  have Hfl := Lib.hid hfl
  clear hfl
  go_enter Try.func48, Try.ntmps48
  go_wp2_with (at_builtin; refine wpList_app _ rfl (.tmp 13) (.tmp 14) 26 rfl w.heap.size 5 (.int .u8 0) 1 1 Try.underlying26 infoByte rfl (by decide) none 0 0 [] rfl (App.nil _ _ _ _) A n c (bytesV l) rfl hs (bytesV_one _) (by unfold maxLen; omega) (by omega) (Nat.le_refl _) ?_; intro A2 d2 w2 hat2; have hb2 := hat2.below (Nat.le_refl _))
  have happ := hat2.app
  rw [List.nil_append] at happ
  simp only [Nat.zero_add] at happ ⊢
  refine (refFrame_any _ _ _ b _ (ht.below hb2) hm).mono ?_; rintro e w3 ⟨A3, m3, c3, rfl, hs3, hb3⟩
  have hm3 : m3 ≤ 1000100 := by have := hs3.blen; have := Hfl.out; omega
  have happ3 := happ.below hb3
  have hbA := hb2.trans (hb3.mono hb2.size)
  clear hat2 happ hb2 hb3 hs ht
  go_wp2_with (at_builtin; refine wpList_app _ rfl (.tmp 16) (.tmp 18) 26 rfl w.heap.size 5 (.int .u8 0) 1 1 Try.underlying26 infoByte rfl (by decide) A2 n d2 _ rfl happ3 A3 m3 c3 _ rfl hs3 (bytesV_one _) (by unfold maxLen; omega) (by omega) hbA.size ?_; intro A4 d4 w4 hat4; have hbB := hbA.trans (hat4.below hbA.size))
  go_ret2
  have h5 := hat4.app.sl
  rw [← bytesV_append] at h5
  exact ⟨_, _, _, rfl, h5, hbB⟩

set_option maxRecDepth 100000 in
set_option maxHeartbeats 2000000 in
theorem refGet_any (A : Option Addr) (n c : Nat) (l : List UInt8) (at_ : Int) (w : World) (hs : Sl w 1 A n c (bytesV l)) (hl : n ≤ 1000000) :
    Calls Try.prog 49 #[.slice A n c, .int .i64 at_] w fun e w' => ∃ A' n' c', e = .returned (.tuple #[.slice A' n' c', .int .i64 ((fg l at_).2.1 : Nat), .int .i64 ((fg l at_).2.2 : Nat)]) ∧
      Sl w' 1 A' n' c' (bytesV (fg l at_).1) ∧ Below w.heap.size w w' := by
  have hlen := hs.blen
  have hlt := gu_lt l at_
  have hnx := gu_next l at_
  obtain ⟨q, hq⟩ : ∃ q, q = fg l at_ := ⟨_, rfl⟩
  rw [← hq]
  unfold fg at hq
  obtain ⟨⟨k, fr, er⟩, hg⟩ : ∃ g, g = gu l at_ := ⟨_, rfl⟩
  rw [← hg] at hq hlt hnx
  simp only at hq hlt hnx
  rw [hlen] at hq hnx
  have Hg := Lib.hid hg
  have Hl := Lib.hid hlen
  clear hg hlen
  by_cases h1 : er ≠ 0
  · rw [if_pos h1] at hq
    have Hq := Lib.hid hq
    have h1' : 0 < er := by omega
    clear hq h1
    go_enter Try.func49, Try.ntmps49
    go_wp2_with (go_at_call 32; refine (refGetUint_any _ _ _ l _ _ hs (by omega)).mono ?_; rintro e w' ⟨rfl, rfl⟩; rw [← Hg.out])
    go_ret3
    exact ⟨none, 0, 0, by rw [Hq.out]; rfl, by rw [Hq.out]; exact Sl.nil _ _, Below.refl _ _⟩
  rw [if_neg h1] at hq
  obtain rfl : er = 0 := by omega
  clear h1
  by_cases h2 : k = 0 ∨ 1048576 < k
  · rw [if_pos h2] at hq
    have Hq := Lib.hid hq
    clear hq
    by_cases h0 : k = 0
    · subst h0
      go_enter Try.func49, Try.ntmps49
      go_wp2_with (go_at_call 32; refine (refGetUint_any _ _ _ l _ _ hs (by omega)).mono ?_; rintro e w' ⟨rfl, rfl⟩; rw [← Hg.out])
      go_ret3
      exact ⟨none, 0, 0, by rw [Hq.out]; rfl, by rw [Hq.out]; exact Sl.nil _ _, Below.refl _ _⟩
    · have h0' : 1 ≤ k := by omega
      have h02 : 1048576 < k := by omega
      clear h2 h0
      go_enter Try.func49, Try.ntmps49
      go_wp2_with (go_at_call 32; refine (refGetUint_any _ _ _ l _ _ hs (by omega)).mono ?_; rintro e w' ⟨rfl, rfl⟩; rw [← Hg.out])
      go_ret3
      exact ⟨none, 0, 0, by rw [Hq.out]; rfl, by rw [Hq.out]; exact Sl.nil _ _, Below.refl _ _⟩
  rw [if_neg h2] at hq
  have hk1 : 1 ≤ k := by omega
  have hk2 : k ≤ 1048576 := by omega
  clear h2 hlt
  by_cases h3 : n < fr + k + 5
  · rw [if_pos h3] at hq
    have Hq := Lib.hid hq
    clear hq
    go_enter Try.func49, Try.ntmps49
    go_wp2_with (go_at_call 32; refine (refGetUint_any _ _ _ l _ _ hs (by omega)).mono ?_; rintro e w' ⟨rfl, rfl⟩; rw [← Hg.out])
    go_ret3
    exact ⟨none, 0, 0, by rw [Hq.out]; rfl, by rw [Hq.out]; exact Sl.nil _ _, Below.refl _ _⟩
  rw [if_neg h3] at hq
  obtain ⟨p, hp⟩ : ∃ p, p = fr + k + 4 := ⟨_, rfl⟩
  obtain ⟨x, hx⟩ := get_some l p (by rw [Hl.out]; omega)
  rw [← hp, hx] at hq
  obtain ⟨ad, rfl, hc⟩ := hs.byteAt hx
  have hw0 : IntKind.i64.wrap ((fr : Int) + (k : Int)) = (fr : Int) + (k : Int) := IntWalk.i64_in _ (by omega)
  have hw1 : IntKind.i64.wrap ((fr : Int) + (k : Int) + 5) = (fr : Int) + (k : Int) + 5 := IntWalk.i64_in _ (by omega)
  have hw2 : IntKind.i64.wrap ((fr : Int) + (k : Int) + 5 - 1) = (fr : Int) + (k : Int) + 5 - 1 := IntWalk.i64_in _ (by omega)
  have hnn : ((fr : Int) + (k : Int) + 5 - 1).toNat = p := by omega
  have hin : (0 : Int) ≤ (fr : Int) + (k : Int) + 5 - 1 ∧ (fr : Int) + (k : Int) + 5 - 1 < (n : Int) := by omega
  have hxl := x.toNat_lt
  have Hp := Lib.hid hp
  clear hx hp
  by_cases h4 : x = 165
  · rw [if_neg (by rw [h4]; simp)] at hq
    have h4b : ((x.toNat : Int) != 165) = false := by rw [h4]; rfl
    obtain ⟨body, hbody⟩ : ∃ b, b = (l.take (fr + k)).drop fr := ⟨_, rfl⟩
    rw [← hbody] at hq
    have hbl : body.length = k := by rw [hbody, List.length_drop, List.length_take, Hl.out]; omega
    obtain ⟨A', hcut, _, hdr⟩ := cutb_mid .i64 .i64 (some ad) n c fr (fr + k) (fr : Int) ((fr : Int) + (k : Int)) rfl (by simp) (by omega) (by omega) hs.le
    have hsd := hdr _ _ hs
    rw [← hbody] at hsd
    rw [show fr + k - fr = k by omega] at hcut hsd
    have Hbl := Lib.hid hbl
    have Hq := Lib.hid hq
    clear hdr hbody hbl hq h4
    go_enter Try.func49, Try.ntmps49
    go_wp2_with (first | (go_at_call 32; refine (refGetUint_any _ _ _ l _ _ hs (by omega)).mono ?_; rintro e w' ⟨rfl, rfl⟩; rw [← Hg.out]) | (at_builtin; refine wpList_app _ rfl (.tmp 45) (.tmp 52) 26 rfl w.heap.size 5 (.int .u8 0) 1 1 Try.underlying26 infoByte rfl (by decide) none 0 0 [] rfl (App.nil _ _ _ _) A' k _ (bytesV body) rfl hsd (bytesV_one _) (by unfold maxLen; omega) (by omega) (Nat.le_refl _) ?_; intro A2 d2 w2 hat2; have hb2 := hat2.below (Nat.le_refl _)))
    have happ2 := hat2.app.sl
    rw [List.nil_append] at happ2
    simp only [Nat.zero_add] at happ2 ⊢
    have hs2 := hs.below hb2
    clear hat2 hs hsd hcut
    refine (refFrame_any _ _ _ body _ happ2 (by omega)).mono ?_; rintro e w3 ⟨A3, m3, c3, rfl, hs3, hb3⟩
    have hsr := hs2.below hb3
    have hbody3 := happ2.below hb3
    have hbA := hb2.trans (hb3.mono hb2.size)
    clear hs2 happ2 hb2 hb3
    obtain ⟨u, hu⟩ : ∃ u, u = (uv k).length := ⟨_, rfl⟩
    have hu10 := uv_len_ten k (by omega)
    have hm3 : m3 = u + k + 5 := by rw [← hs3.blen, frm_len, Hbl.out, hu]
    rw [← hu] at hu10
    have hm0 : 0 < m3 := by omega
    obtain ⟨a3, rfl⟩ : ∃ a3, A3 = some a3 := by
      cases A3 with
      | none => have := (hs3.none rfl).1; omega
      | some a => exact ⟨a, rfl⟩
    obtain ⟨r4, hr4⟩ : ∃ r, r = (l.drop (fr + k)).take 4 := ⟨_, rfl⟩
    obtain ⟨c4, hc4⟩ : ∃ r, r = crc4 (crc body) := ⟨_, rfl⟩
    have hrl : r4.length = 4 := by rw [hr4, List.length_take, List.length_drop, Hl.out]; omega
    have hcl : c4.length = 4 := by rw [hc4]; rfl
    have hrat : ∀ i y, i < 4 → r4[i]? = some y → l[fr + k + i]? = some y := by
      intro i y hi hy
      rw [hr4, List.getElem?_take, if_pos hi, List.getElem?_drop] at hy
      exact hy
    have hcat : ∀ i y, i < 4 → c4[i]? = some y → (frm body)[u + k + i]? = some y := by
      intro i y hi hy
      unfold frm
      rw [Hbl.out, List.getElem?_append_right (by omega), ← hu, List.getElem?_append_right (by rw [Hbl.out]; omega), Hbl.out, show u + k + i - u - k = i by omega, List.getElem?_append_left (by rw [← hc4, hcl]; exact hi), ← hc4]
      exact hy
    rw [← hr4, ← hc4] at Hq
    have Hrl := Lib.hid hrl
    have Hcl := Lib.hid hcl
    have Hrat := Lib.hid hrat
    have Hcat := Lib.hid hcat
    have Hm3 := Lib.hid hm3
    have Hsr := Lib.hid (fun i y => @Sl.byteAt w3 (some ad) n c l hsr i y)
    have Hs3 := Lib.hid (fun i y => @Sl.byteAt w3 (some a3) m3 c3 (frm body) hs3 i y)
    have hm3b : m3 ≤ 2000000 := by omega
    obtain ⟨NX, hNX⟩ : ∃ NX : Int, NX = (fr : Int) + (k : Int) + 5 := ⟨_, rfl⟩
    have hNXb : 0 ≤ NX ∧ NX ≤ 2000000 := by omega
    have HNX := Lib.hid hNX
    clear hrl hcl hrat hcat hr4 hc4 hu hm3 hs3 hsr hw0 hw1 hw2 hnn hin hc
    go_wp2_with fail
    rw [← HNX.out]
    clear hNX
    go_loopw [13] (fun iv wx => ∃ i : Nat, i ≤ 4 ∧ iv = .int .i64 (i : Int) ∧ Hid (∀ j, j < i → r4[j]? = c4[j]?) ∧ Below w3.heap.size w3 wx) (fun iv _ => 4 - (intOf iv).toNat)
    case atStart => exact ⟨0, by omega, rfl, Lib.hid (fun j h => by omega), Below.refl _ _⟩
    case round =>
      obtain ⟨i, hi4, rfl, Heq, hbx⟩ := hrel
      by_cases hlt : i < 4
      · obtain ⟨y, hy⟩ := get_some r4 i (by rw [Hrl.out]; exact hlt)
        obtain ⟨v, hv⟩ := get_some c4 i (by rw [Hcl.out]; exact hlt)
        obtain ⟨ad1, had1, hc1⟩ := Hsr.out _ _ (Hrat.out i y hlt hy)
        obtain ⟨ad2, had2, hc2⟩ := Hs3.out _ _ (Hcat.out i v hlt hv)
        cases had1
        cases had2
        have hyl := y.toNat_lt
        have hvl := v.toNat_lt
        obtain ⟨z, hz⟩ : ∃ z, ((y.toNat : Int) != (v.toNat : Int)) = z := ⟨_, rfl⟩
        obtain ⟨p1, hp1⟩ : ∃ p, p = fr + k + i := ⟨_, rfl⟩
        obtain ⟨p2, hp2⟩ : ∃ p, p = u + k + i := ⟨_, rfl⟩
        rw [← hp1] at hc1
        rw [← hp2] at hc2
        have hcr1 := (World.cell?_of_block (w := w3) (w' := wr) (hbx.block _ (World.block_lt_of_cell? _ _ hc1))).trans hc1
        have hcr2 := (World.cell?_of_block (w := w3) (w' := wr) (hbx.block _ (World.block_lt_of_cell? _ _ hc2))).trans hc2
        have hNX2 := HNX.out
        have hm32 := Hm3.out
        have f1 : IntKind.i64.wrap (NX - 5) = NX - 5 := IntWalk.i64_in _ (by omega)
        have f2 : IntKind.i64.wrap (NX - 5 + (i : Int)) = NX - 5 + (i : Int) := IntWalk.i64_in _ (by omega)
        have f3 : IntKind.i64.wrap ((m3 : Int) - 5) = (m3 : Int) - 5 := IntWalk.i64_in _ (by omega)
        have f4 : IntKind.i64.wrap ((m3 : Int) - 5 + (i : Int)) = (m3 : Int) - 5 + (i : Int) := IntWalk.i64_in _ (by omega)
        have f5 : (NX - 5 + (i : Int)).toNat = p1 := by omega
        have f6 : ((m3 : Int) - 5 + (i : Int)).toNat = p2 := by omega
        have f7 : (0 : Int) ≤ NX - 5 + (i : Int) ∧ NX - 5 + (i : Int) < (n : Int) := by omega
        have f8 : (0 : Int) ≤ (m3 : Int) - 5 + (i : Int) ∧ (m3 : Int) - 5 + (i : Int) < (m3 : Int) := by omega
        have Hy := Lib.hid hy
        have Hv := Lib.hid hv
        have Hz := Lib.hid hz
        clear hy hv hp1 hp2 hc1 hc2 hNX2 hm32
        go_wp2_with fail
        go_still (by kernel_rfl)
        change Exit.then _ _ Exit.normal _ wr.drew
        have hbd := hbx.drew
        clear hbx hcr1 hcr2
        generalize wr.drew = w4 at *
        cases z with
        | false =>
          have hyv : y = v := by
            have h1 := Hz.out
            rw [bne_eq_false_iff_eq] at h1
            exact UInt8.toNat.inj (by omega)
          go_wp2_with fail
          go_roundw
          case rel =>
            refine ⟨i + 1, by omega, by go_num, Lib.hid (fun j hj => ?_), hbd⟩
            by_cases hji : j = i
            · rw [hji, Hy.out, Hv.out, hyv]
            · exact Heq.out j (by omega)
          case measure => simp [intOf]; omega
        | true =>
          have hne : r4 ≠ c4 := by
            intro e
            have h1 := Hz.out
            rw [bne_iff_ne] at h1
            have h2 := Hy.out
            rw [e, Hv.out] at h2
            cases h2
            exact h1 rfl
          have hqe : q = ([], 0, 12) := by rw [Hq.out, if_pos hne]
          have Hq2 := Lib.hid hqe
          clear hqe hne
          go_wp2_with fail
          go_ret3
          exact ⟨none, 0, 0, by rw [Hq2.out]; rfl, by rw [Hq2.out]; exact Sl.nil _ _, hbA.trans (hbd.mono hbA.size)⟩
      · have hee : r4 = c4 := by
          apply List.ext_getElem?
          intro j
          by_cases hj : j < 4
          · exact Heq.out j (by omega)
          · rw [List.getElem?_eq_none (by rw [Hrl.out]; omega), List.getElem?_eq_none (by rw [Hcl.out]; omega)]
        have hqe : q = (body, fr + k + 5, 0) := by rw [Hq.out, if_neg (by simpa using hee)]
        have Hq2 := Lib.hid hqe
        obtain rfl : i = 4 := by omega
        clear hqe hee
        go_wp2_with fail
        go_ret3
        refine ⟨A2, k, d2, ?_, by rw [Hq2.out]; exact hbody3.below hbx, hbA.trans (hbx.mono hbA.size)⟩
        rw [Hq2.out]
        have hN := HNX.out
        have e1 : (((fr + k + 5 : Nat) : Int)) = NX := by omega
        simp only [e1]
        rfl
  · have h4b : ((x.toNat : Int) != 165) = true := by
      rw [bne_iff_ne]
      intro e
      apply h4
      apply UInt8.toNat.inj
      have : (165 : UInt8).toNat = 165 := rfl
      omega
    rw [if_pos (by simpa using h4)] at hq
    have Hq := Lib.hid hq
    clear hq h4
    go_enter Try.func49, Try.ntmps49
    go_wp2_with (go_at_call 32; refine (refGetUint_any _ _ _ l _ _ hs (by omega)).mono ?_; rintro e w' ⟨rfl, rfl⟩; rw [← Hg.out])
    go_ret3
    exact ⟨none, 0, 0, by rw [Hq.out]; rfl, by rw [Hq.out]; exact Sl.nil _ _, Below.refl _ _⟩
end Go.Proofs.Ytbnifagmbhiblaa
