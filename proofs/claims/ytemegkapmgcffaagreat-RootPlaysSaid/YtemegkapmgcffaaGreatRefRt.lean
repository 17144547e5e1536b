import Derived.Test.YtemegkapmgcffaaGreatMRc
import Derived.Test.YtemegkapmgcffaaGreatRkM
import Derived.Test.YtemegkapmgcffaaGreatMRr
import Derived.BigQuiet
import Derived.Deep.QuietTactic
/- The document's answer for roots: Bytes and Parse (printed by wip/gen/grtref.py). -/
namespace Go.Proofs.YtemegkapmgcffaaGreat
open Go.RowKit
set_option linter.unusedSimpArgs false
set_option linter.unusedVariables false

theorem wrote3t {W w w' : World} {r : Nat} (hb : Below W.heap.size W w) (hg : w.grownBy w' (some r)) (hr : W.heap.size ≤ r) : Below W.heap.size W w' :=
  hb.grown hg hb.size (fun k hk => by cases hk; exact hr)
theorem fg_short (l : List UInt8) (a : Int) : (fg l a).1.length ≤ l.length := by
  unfold fg
  repeat' split
  all_goals simp
  all_goals omega
theorem cellBr {w w' : World} {a : Addr} {v : Value} (hb : Below w.heap.size w w') (h : w.cell? a = some v) : w'.cell? a = some v :=
  (World.cell?_of_block (hb.block _ (World.block_lt_of_cell? _ _ h))).trans h
theorem sl_kept3 {w w' : World} {q : Nat} {s b : Int} {B : Option Addr} {k d : Nat} {A : Option Addr} {n c : Nat} {x : List UInt8} (h : w.heap[q]? = some (rtO s b B k d)) (hs : Sl w 1 A n c (bytesV x)) (hg : w.grownBy w' (some q)) : Sl w' 1 A n c (bytesV x) := by
  by_cases h0 : bytesV x = []
  · rw [h0] at hs ⊢
    exact ⟨fun j u hj => by simp at hj, hs.len, hs.le, hs.none⟩
  · refine sl_same hs (fun a ha => hg.block _ ?_ (fun e => row_apart h hs h0 a ha (Option.some.inj e)))
    obtain ⟨v, t, hv⟩ := List.exists_cons_of_ne_nil h0
    obtain ⟨ad, h6, h7⟩ := hs.cells 0 v (by rw [hv]; rfl)
    rw [ha] at h6
    cases h6
    have h8 := World.block_lt_of_cell? _ _ h7
    rwa [add_block] at h8
theorem slB_cell {w : World} {A : Option Addr} {n c : Nat} {l : List UInt8} (h : Sl w 1 A n c (bytesV l)) {k : Nat} {x : UInt8} (hk : l[k]? = some x) : ∃ ad, A = some ad ∧ w.cell? (ad.add k) = some (.int .u8 (x.toNat : Int)) :=
  h.cells k _ (by rw [bytesV, List.getElem?_map, hk]; rfl)
set_option maxRecDepth 100000 in
set_option maxHeartbeats 4000000 in
theorem refSame_any (A B : Option Addr) (n c m d : Nat) (l b : List UInt8) (w : World) (hs : Sl w 1 A n c (bytesV l)) (ht : Sl w 1 B m d (bytesV b)) (hm : n ≤ 1000000000) :
    Calls Tryz.prog 91 #[.slice A n c, .slice B m d] w fun e w' => e = .returned (.bool (l == b)) ∧ Below w.heap.size w w' := by
  have hl := hs.blen
  have hb := ht.blen
  by_cases hnm : n = m
  · subst hnm
    go_enter Tryz.func91, Tryz.ntmps91
    go_wp2_with fail
    go_loopw [5] (fun s5 wx => ∃ (k : Nat), k ≤ n ∧ s5 = .int .i64 (k : Int) ∧ Hid (l.take k = b.take k) ∧ Hid (Below w.heap.size w wx)) (fun iv _ => n - (intOf iv).toNat)
    case atStart => exact ⟨0, by omega, rfl, Lib.hid rfl, Lib.hid (Below.refl _ _)⟩
    case round =>
      obtain ⟨k, hk, rfl, HT, HB⟩ := hrel
      rename World => wx
      by_cases hkm : k < n
      · obtain ⟨x, hx⟩ : ∃ x, l[k]? = some x := ⟨_, List.getElem?_eq_getElem (by omega)⟩
        obtain ⟨y, hy⟩ : ∃ y, b[k]? = some y := ⟨_, List.getElem?_eq_getElem (by omega)⟩
        obtain ⟨ad1, h11, h12⟩ := slB_cell (hs.below HB.out) hx
        obtain ⟨ad2, h21, h22⟩ := slB_cell (ht.below HB.out) hy
        subst h11; subst h21
        have hin : (0 : Int) ≤ (k : Int) ∧ (k : Int) < (n : Int) := by omega
        have Hx := Lib.hid hx
        have Hy := Lib.hid hy
        clear hx hy hl hb
        by_cases hxy : x = y
        · subst hxy
          have hT : l.take (k + 1) = b.take (k + 1) := by rw [List.take_add_one, List.take_add_one, HT.out, Hx.out, Hy.out]
          have HT2 := Lib.hid hT
          clear hT
          go_upto_region 6 with fail
          go_quiet (fail)
          go_wp2_with fail
          go_roundw
          case rel => exact ⟨k + 1, by omega, by go_num, HT2, Lib.hid (below_drewN HB.out _)⟩
          case measure => simp [intOf]; omega
        · have hd : ((x.toNat : Int) == (y.toNat : Int)) = false := by
            simp
            intro h
            exact hxy (UInt8.toNat_inj.1 (by omega))
          have hd2 : decide ((x.toNat : Int) = (y.toNat : Int)) = false := by
            simp
            intro h
            exact hxy (UInt8.toNat_inj.1 (by omega))
          have hd3 : ¬ x.toNat = y.toNat := fun h => hxy (UInt8.toNat_inj.1 h)
          have HF := Lib.hid (show (l == b) = false by
            simp
            intro h
            subst h
            have h5 := Hx.out
            rw [Hy.out] at h5
            cases h5
            exact hxy rfl)
          clear hxy
          go_upto_region 6 with fail
          go_quiet (fail)
          go_wp2_with fail
          go_ret
          exact ⟨by rw [HF.out]; rfl, below_drewN HB.out _⟩
      · obtain rfl : k = n := by omega
        have HF := Lib.hid (show (l == b) = true by
          have h := HT.out
          rw [List.take_of_length_le (by omega), List.take_of_length_le (by omega)] at h
          simp [h])
        go_wp2_with fail
        go_ret
        exact ⟨by rw [HF.out]; rfl, HB.out⟩
  · have HF := Lib.hid (show (l == b) = false by
      simp
      intro h
      rw [h] at hl
      omega)
    go_enter Tryz.func91, Tryz.ntmps91
    have hnm2 : ((n : Int) == (m : Int)) = false := by simp; omega
    go_wp2_with fail
    go_ret
    exact ⟨by rw [HF.out]; rfl, Below.refl _ _⟩
set_option maxHeartbeats 4000000 in
theorem refNext_any (A : Option Addr) (n c : Nat) (l : List UInt8) (at_ e : Int) (w : World) (hs : Sl w 1 A n c (bytesV l)) (hl : n ≤ 140737488351232) :
    Calls Tryz.prog 89 #[.slice A n c, .int .i64 at_, .int .i64 e] w fun x w' => x = .returned (.tuple (if e = 0 then #[.int .u64 ((gu l at_).1 : Nat), .int .i64 ((gu l at_).2.1 : Nat), .int .i64 ((gu l at_).2.2 : Nat)] else #[.int .u64 0, .int .i64 0, .int .i64 e])) ∧ w = w' := by
  go_enter Tryz.func89, Tryz.ntmps89
  by_cases he : e = 0
  · subst he
    have hc := refGetUint_any A n c l at_ w hs hl
    go_wp2_with fail
    refine hc.mono ?_; rintro x w1 ⟨rfl, rfl⟩
    go_wp2_with fail
    go_ret3
    exact ⟨rfl, rfl⟩
  · have he2 : (e == 0) = false := by simpa using he
    go_wp2_with fail
    go_ret3
    first | exact ⟨rfl, rfl⟩ | (rw [if_neg he]; exact ⟨rfl, rfl⟩)
set_option maxRecDepth 100000 in
set_option maxHeartbeats 8000000 in
theorem refBytes_any (s b : Int) (A : Option Addr) (n c : Nat) (x : List UInt8) (w : World) (hs : Sl w 1 A n c (bytesV x)) :
    Calls Tryz.prog 29 #[.agg #[.int .i64 s, .int .i64 b, .slice A n c]] w fun e w' => ∃ A' c', e = .returned (.tuple #[.slice A' (bytesR s b x).1.length c', .int .i64 (bytesR s b x).2]) ∧ Sl w' 1 A' (bytesR s b x).1.length c' (bytesV (bytesR s b x).1) ∧ Below w.heap.size w w' := by
  have hn := hs.blen
  obtain ⟨w1, hw1⟩ : ∃ w1, w1 = w.alloc (.cells (rtC s b A n c).toArray 36) := ⟨_, rfl⟩
  have hb1 : Below w.heap.size w w1 := by rw [hw1]; exact below_alloc1 _ _
  have key : ∀ j u, (rtC s b A n c)[j]? = some u → w1.cell? ⟨w.heap.size, j, none⟩ = some u := fun j u hj => by rw [hw1]; exact box_cellsR w _ _ j u hj
  have c0 := key 0 _ rfl
  have c1 := key 1 _ rfl
  have c2 := key 2 _ rfl
  have eW : (w.alloc (.cells #[.int .i64 s, .int .i64 b, .slice A n c] 36)) = w1 := by rw [hw1]; rfl
  have HB := Lib.hid hb1
  have HS := Lib.hid (hs.below hb1)
  clear key hb1 hw1 hs
  go_enter Tryz.func29, Tryz.ntmps29
  go_upto_region 1 with fail
  clear eW
  by_cases hr : rightR s b n = true
  · have hr2 := (rightR_iff s b n).1 hr
    obtain ⟨S, hS⟩ : ∃ S : Nat, S = s.toNat := ⟨_, rfl⟩
    obtain ⟨B, hB⟩ : ∃ B : Nat, B = b.toNat := ⟨_, rfl⟩
    have eS : s = (S : Int) := by omega
    have eB : b = (B : Int) := by omega
    have HR := Lib.hid (show bytesR s b x = (frm (rootB S B x), 0) by unfold bytesR; rw [hn, if_pos hr, hS, hB])
    have hwS : IntKind.u64.wrap (S : Int) = (S : Int) := by rw [IntKind.wrap_u64]; omega
    have hwB : IntKind.u64.wrap (B : Int) = (B : Int) := by rw [IntKind.wrap_u64]; omega
    have hSl : S < 18446744073709551616 := by omega
    have hBl : B < 18446744073709551616 := by omega
    have hnl : n ≤ 524288 := hr2.2.2.2.2
    have q1 : ¬ (S : Int) < 1 := by omega
    have q2 : ¬ (1099511627776 : Int) < (S : Int) := by omega
    have q4 : ¬ (576460752303423488 : Int) < (B : Int) := by omega
    have q5 : ¬ (524288 : Int) < (n : Int) := by omega
    subst eS eB
    clear hr hr2 hS hB
    go_wp2_with fail
    refine (refVarint_any S w1 hSl).mono ?_; rintro e w2 ⟨A1, n1, c1', rfl, happ, b2⟩
    have s1 := happ.sl
    have hn1 : n1 ≤ 100 := by have := s1.blen; have := uv_len_ten S hSl; omega
    have d1 := cellBr b2 c1
    have d2 := cellBr b2 c2
    have B2 := Lib.hid (HB.out.trans (b2.mono HB.out.size))
    have S2 := Lib.hid (HS.out.below b2)
    clear c0 c1 c2 happ b2
    go_wp2_with fail
    refine (refUint_any A1 n1 c1' (uv S) B _ w2 s1 (by omega) hBl rfl).mono ?_; rintro e w3 ⟨A2, n2, c2', rfl, s2, b3⟩
    have hn2 : n2 ≤ 200 := by have h8 := s2.blen; have := uv_len_ten S hSl; have := uv_len_ten B hBl; simp only [List.length_append] at h8; omega
    have d3 := cellBr b3 d2
    have B3 := Lib.hid (B2.out.trans (b3.mono B2.out.size))
    have S3 := Lib.hid (S2.out.below b3)
    clear d1 d2 b3 s1
    go_wp2_with fail
    refine (refBlob_any A2 A n2 c2' n c (uv S ++ uv B) x w3 s2 S3.out (by omega) (by omega)).mono ?_; rintro e w4 ⟨A3, n3, c3, rfl, s3, b4⟩
    have he : (uv S ++ uv B) ++ (uv x.length ++ x) = rootB S B x := by unfold rootB; rw [List.append_assoc]
    rw [he] at s3
    have hn3 : n3 ≤ 1000000 := by
      have h8 := s3.blen
      unfold rootB at h8
      have := uv_len_ten S hSl; have := uv_len_ten B hBl; have := uv_len_ten x.length (by omega)
      simp only [List.length_append] at h8
      omega
    have B4 := Lib.hid (B3.out.trans (b4.mono B3.out.size))
    clear d3 b4 s2 he
    go_wp2_with fail
    refine (refFrame_any A3 n3 c3 (rootB S B x) w4 s3 (by omega)).mono ?_; rintro e w5 ⟨A4, n4, c4, rfl, s4, b5⟩
    have hn4 := s4.blen
    go_wp2_with fail
    go_ret2
    rw [HR.out]
    subst hn4
    exact ⟨A4, c4, rfl, s4, B4.out.trans (b5.mono B4.out.size)⟩
  · have HR := Lib.hid (show bytesR s b x = ([], 2) by unfold bytesR; rw [hn, if_neg hr])
    have hr2 : ¬ (1 ≤ s ∧ s ≤ 1099511627776 ∧ 0 ≤ b ∧ b ≤ 576460752303423488 ∧ n ≤ 524288) := fun h => hr ((rightR_iff s b n).2 h)
    clear hr
    by_cases q1 : s < 1
    · clear hr2
      go_wp2_with fail
      go_ret2
      rw [HR.out]
      exact ⟨none, 0, rfl, Sl.nil _ _, HB.out⟩
    by_cases q2 : (1099511627776 : Int) < s
    · clear hr2
      go_wp2_with fail
      go_ret2
      rw [HR.out]
      exact ⟨none, 0, rfl, Sl.nil _ _, HB.out⟩
    by_cases q3 : b < 0
    · clear hr2
      go_wp2_with fail
      go_ret2
      rw [HR.out]
      exact ⟨none, 0, rfl, Sl.nil _ _, HB.out⟩
    by_cases q4 : (576460752303423488 : Int) < b
    · clear hr2
      go_wp2_with fail
      go_ret2
      rw [HR.out]
      exact ⟨none, 0, rfl, Sl.nil _ _, HB.out⟩
    have q5 : (524288 : Int) < (n : Int) := by omega
    clear hr2
    go_wp2_with fail
    go_ret2
    rw [HR.out]
    exact ⟨none, 0, rfl, Sl.nil _ _, HB.out⟩
/-- when the document's Parse tells a root -/
def ParC (l : List UInt8) : Prop := (fg l 0).2.2 = 0 ∧ (gu (fg l 0).1 0).2.2 = 0 ∧ (gu (fg l 0).1 (gu (fg l 0).1 0).2.1).2.2 = 0 ∧ (gu (fg l 0).1 0).1 ≤ 1099511627776 ∧ (gu (fg l 0).1 (gu (fg l 0).1 0).2.1).1 ≤ 576460752303423488 ∧
  (gb (fg l 0).1 (gu (fg l 0).1 (gu (fg l 0).1 0).2.1).2.1 524288).2.2 = 0 ∧
  bytesR (gu (fg l 0).1 0).1 (gu (fg l 0).1 (gu (fg l 0).1 0).2.1).1 (gb (fg l 0).1 (gu (fg l 0).1 (gu (fg l 0).1 0).2.1).2.1 524288).1 = (l, 0)
theorem parse_yes {l : List UInt8} (h : ParC l) : parseF l = (⟨(gu (fg l 0).1 0).1, (gu (fg l 0).1 (gu (fg l 0).1 0).2.1).1, (gb (fg l 0).1 (gu (fg l 0).1 (gu (fg l 0).1 0).2.1).2.1 524288).1⟩, 0) := bytes_parse h.2.2.2.2.2.2
theorem parse_no {l : List UInt8} (h : ¬ ParC l) : parseF l = (⟨0, 0, []⟩, 10) := by
  by_cases hp : (parseF l).2 = 0
  · exfalso
    apply h
    have h0 : parseF l = ((parseF l).1, 0) := by rw [← hp]
    have hb := parse_bytes h0
    unfold parseF at hp
    split at hp
    · rename_i hc
      have h5 : (parseF l).1 = ⟨(gu (fg l 0).1 0).1, (gu (fg l 0).1 (gu (fg l 0).1 0).2.1).1, (gb (fg l 0).1 (gu (fg l 0).1 (gu (fg l 0).1 0).2.1).2.1 524288).1⟩ := by
        unfold parseF
        rw [if_pos hc]
      rw [h5] at hb
      exact ⟨hc.1.1, hc.2.1.1, hc.2.2.1.1, hc.2.1.2, hc.2.2.1.2, hc.2.2.2.1, hb⟩
    · cases hp
  · unfold parseF at hp ⊢
    split
    · rename_i hc
      rw [if_pos hc] at hp
      exact absurd rfl hp
    · rfl
set_option maxRecDepth 100000 in
set_option maxHeartbeats 8000000 in
theorem refParse_any (A : Option Addr) (n c : Nat) (l : List UInt8) (w : World) (hs : Sl w 1 A n c (bytesV l)) (hl : n ≤ 900000) :
    Calls Tryz.prog 58 #[.slice A n c] w fun x w' => ∃ A' c', x = .returned (.tuple #[.agg #[.int .i64 (parseF l).1.s, .int .i64 (parseF l).1.b, .slice A' (parseF l).1.x.length c'], .int .i64 (parseF l).2]) ∧ Sl w' 1 A' (parseF l).1.x.length c' (bytesV (parseF l).1.x) ∧ Below w.heap.size w w' := by
  obtain ⟨B, N, E, hG⟩ : ∃ B N E, fg l 0 = (B, N, E) := ⟨_, _, _, rfl⟩
  obtain ⟨i, iN, iE, hI⟩ : ∃ i iN iE, gu B 0 = (i, iN, iE) := ⟨_, _, _, rfl⟩
  obtain ⟨j, jN, jE, hJ⟩ : ∃ j jN jE, gu B iN = (j, jN, jE) := ⟨_, _, _, rfl⟩
  obtain ⟨y, yN, yE, hY⟩ : ∃ y yN yE, gb B jN 524288 = (y, yN, yE) := ⟨_, _, _, rfl⟩
  obtain ⟨bs, be, hBY⟩ : ∃ bs be, bytesR i j y = (bs, be) := ⟨_, _, rfl⟩
  have HC := Lib.hid (show ParC l ↔ (E = 0 ∧ iE = 0 ∧ jE = 0 ∧ i ≤ 1099511627776 ∧ j ≤ 576460752303423488 ∧ yE = 0 ∧ (bs, be) = (l, 0)) by unfold ParC; simp only [hG, hI, hJ, hY, hBY])
  have HY := Lib.hid (show ParC l → parseF l = (⟨i, j, y⟩, 0) from fun h => by rw [parse_yes h]; simp only [hG, hI, hJ, hY])
  have HN := Lib.hid (show ¬ ParC l → parseF l = (⟨0, 0, []⟩, 10) from parse_no)
  have hBl : B.length ≤ l.length := by
    have h8 := fg_short l 0
    rw [hG] at h8
    exact h8
  have hnl := hs.blen
  have hgt := gu_lt B 0
  rw [hI] at hgt
  have hgt2 := gu_lt B iN
  rw [hJ] at hgt2
  simp only at hgt hgt2
  have hown := new_own w [.int .i64 0, .int .i64 0, .slice none 0 0] 36 3 rfl (by unfold maxLen; omega)
  have hb1 := below_alloc1 w (.cells #[.int .i64 0, .int .i64 0, .slice none 0 0] 36)
  obtain ⟨W1, hW1⟩ : ∃ W1, W1 = w.alloc (.cells #[.int .i64 0, .int .i64 0, .slice none 0 0] 36) := ⟨_, rfl⟩
  have hT : (w.alloc (.cells [Value.int .i64 0, .int .i64 0, .slice none 0 0].toArray 36)) = W1 := hW1.symm
  rw [hT] at hown
  rw [← hW1] at hb1
  have HW1 := Lib.hid hW1
  have HS := Lib.hid (hs.below hb1)
  have HO := Lib.hid hown
  have HB1 := Lib.hid hb1
  have Hgt := Lib.hid (And.intro hgt hgt2)
  have HBl := Lib.hid (And.intro hBl hnl)
  have hcg := refGet_any A n c l 0 W1 HS.out (by omega)
  rw [hG] at hcg
  clear hown hb1 hW1 hT hs hgt hgt2 hBl hnl
  go_enter Tryz.func58, Tryz.ntmps58
  go_upto_region 1 with fail
  rw [← HW1.out]
  go_wp2_with fail
  refine hcg.mono ?_; rintro e w2 ⟨A2, n2, c2, rfl, s2, b2⟩
  have O2 := Lib.hid (Own.below HO.out b2)
  have B2 := Lib.hid (HB1.out.trans (b2.mono HB1.out.size))
  have hn2 : n2 ≤ 900000 := by have := s2.blen; have := HBl.out; omega
  have SL2 := Lib.hid (HS.out.below b2)
  clear hcg b2
  by_cases hE : E = 0
  · subst hE
    have hci := refGetUint_any A2 n2 c2 B 0 w2 s2 (by omega)
    rw [hI] at hci
    have S2 := Lib.hid s2
    clear s2
    go_wp2_with fail
    refine hci.mono ?_; rintro e w2x ⟨rfl, rfl⟩
    have hcj := refNext_any A2 n2 c2 B iN iE w2 S2.out (by omega)
    clear hci
    by_cases hiE : iE = 0
    · subst hiE
      rw [if_pos (show (((0 : Nat)) : Int) = 0 from rfl), hJ] at hcj
      go_wp2_with fail
      refine hcj.mono ?_; rintro e w2x ⟨rfl, rfl⟩
      clear hcj
      by_cases hjE : jE = 0
      · subst hjE
        by_cases hi : i ≤ 1099511627776
        · by_cases hj : j ≤ 576460752303423488
          · have q1 : ¬ (1099511627776 : Int) < (i : Int) := by omega
            have q2 : ¬ (576460752303423488 : Int) < (j : Int) := by omega
            have hcy := refGetBlob_any A2 n2 c2 B jN 524288 w2 S2.out (by omega) (by omega) (by omega)
            rw [hY] at hcy
            go_wp2_with fail
            refine hcy.mono ?_; rintro e w3 ⟨A3, n3, c3, rfl, s3, b3⟩
            have O3 := Lib.hid (Own.below O2.out b3)
            have B3 := Lib.hid (B2.out.trans (b3.mono B2.out.size))
            have S3 := Lib.hid s3
            have Sl3 := Lib.hid (SL2.out.below b3)
            clear hcy b3 s3
            by_cases hyE : yE = 0
            · subst hyE
              have hw1 : IntKind.i64.wrap (i : Int) = (i : Int) := by rw [IntKind.wrap_i64]; omega
              have hw2 : IntKind.i64.wrap (j : Int) = (j : Int) := by rw [IntKind.wrap_i64]; omega
              have p0 := box_cellsR w3 [.int .i64 (i : Int), .int .i64 (j : Int), .slice A3 n3 c3] 36 0 _ rfl
              have p1 := box_cellsR w3 [.int .i64 (i : Int), .int .i64 (j : Int), .slice A3 n3 c3] 36 1 _ rfl
              have p2 := box_cellsR w3 [.int .i64 (i : Int), .int .i64 (j : Int), .slice A3 n3 c3] 36 2 _ rfl
              have pb := below_alloc1 w3 (.cells #[.int .i64 (i : Int), .int .i64 (j : Int), .slice A3 n3 c3] 36)
              go_upto_region 12 with fail
              obtain ⟨w4, hw4⟩ : ∃ w4, w4 = w3.alloc (.cells #[.int .i64 (i : Int), .int .i64 (j : Int), .slice A3 n3 c3] 36) := ⟨_, rfl⟩
              have hTw4 : (w3.alloc (.cells [Value.int .i64 (i : Int), .int .i64 (j : Int), .slice A3 n3 c3].toArray 36)) = w4 := hw4.symm
              rw [hTw4] at p0 p1 p2
              rw [← hw4] at pb ⊢
              clear hTw4 hw4
              have O4 := Lib.hid (Own.below O3.out pb)
              have B4 := Lib.hid (B3.out.trans (pb.mono B3.out.size))
              have hcb := refBytes_any (i : Int) (j : Int) A3 n3 c3 y w4 (S3.out.below pb)
              rw [hBY] at hcb
              have S4 := Lib.hid (S3.out.below pb)
              have Sl4 := Lib.hid (Sl3.out.below pb)
              clear pb q1 q2 hw1 hw2 O3 S3 Sl3
              go_wp2_with fail
              refine hcb.mono ?_; rintro e w5 ⟨A5, c5, rfl, s5, b5⟩
              have z0 := cellBr b5 p0
              have z1 := cellBr b5 p1
              have z2 := cellBr b5 p2
              have O5 := Lib.hid (Own.below O4.out b5)
              have B5 := Lib.hid (B4.out.trans (b5.mono B4.out.size))
              have S5 := Lib.hid (S4.out.below b5)
              have hsm := refSame_any A5 A bs.length c5 n c bs l w5 s5 (Sl4.out.below b5) (by have h8 := bytesR_len (i : Int) (j : Int) y; rw [hBY] at h8; simp only at h8; omega)
              clear b5 hcb p0 p1 p2 O4 S4 Sl4 s5
              by_cases hbe : be = 0
              · subst hbe
                by_cases hbl : bs = l
                · subst hbl
                  have htt : (bs == bs) = true := by simp
                  rw [htt] at hsm
                  have HF := Lib.hid (HY.out (HC.out.2 (by refine ⟨?_, ?_, ?_, hi, hj, ?_, ?_⟩ <;> first | trivial | rfl)))
                  clear htt
                  go_wp2_with fail
                  refine hsm.mono ?_; rintro e w6 ⟨rfl, b6⟩
                  have O6 := Lib.hid (Own.below O5.out b6)
                  have B6 := Lib.hid (B5.out.trans (b6.mono B5.out.size))
                  have S6 := Lib.hid (S5.out.below b6)
                  have x0 := cellBr b6 z0
                  have x1 := cellBr b6 z1
                  have x2 := cellBr b6 z2
                  have k0 := World.ownsRow.cellAt O6.out 0 (by omega)
                  have k1 := World.ownsRow.cellAt O6.out 1 (by omega)
                  have k2 := World.ownsRow.cellAt O6.out 2 (by omega)
                  simp only [List.getElem?_cons_zero, List.getElem?_cons_succ] at k0 k1 k2
                  have f0 := World.ownsRow.frozenAt O6.out 0
                  have f1 := World.ownsRow.frozenAt O6.out 1
                  have f2 := World.ownsRow.frozenAt O6.out 2
                  have Hst := Lib.hid (stored3R O6.out (.int .i64 (i : Int)) (.int .i64 (j : Int)) (.slice A3 n3 c3))
                  have hn3 := S6.out.blen
                  have Hn3 := Lib.hid hn3
                  clear hsm b6 z0 z1 z2 hn3
                  go_wp2_with fail
                  refine bodyPost_ret (results_cell1R rfl _ _ _ ⟨w.heap.size, 0, none⟩ rfl _ (load_ownR Hst.out.1)) rfl ?_
                  rw [HF.out]
                  refine ⟨A3, c3, ?_, ?_, wrote3t B6.out Hst.out.2 (Nat.le_refl _)⟩
                  · simp only [Hn3.out]; rfl
                  · simp only [Hn3.out]
                    exact sl_kept3 (held_of_own O6.out) S6.out Hst.out.2
                · have hff : (bs == l) = false := by simpa using hbl
                  rw [hff] at hsm
                  go_wp2_with fail
                  refine hsm.mono ?_; rintro e w6 ⟨rfl, b6⟩
                  have O6 := Lib.hid (Own.below O5.out b6)
                  have B6 := Lib.hid (B5.out.trans (b6.mono B5.out.size))
                  clear hsm b6 z0 z1 z2 hff
                  have HF := Lib.hid (HN.out (fun h => by have h9 := HC.out.1 h; exact hbl (Prod.mk.inj h9.2.2.2.2.2.2).1))
                  have k0 := World.ownsRow.cellAt O6.out 0 (by omega)
                  have k1 := World.ownsRow.cellAt O6.out 1 (by omega)
                  have k2 := World.ownsRow.cellAt O6.out 2 (by omega)
                  simp only [List.getElem?_cons_zero, List.getElem?_cons_succ] at k0 k1 k2
                  have f0 := World.ownsRow.frozenAt O6.out 0
                  have f1 := World.ownsRow.frozenAt O6.out 1
                  have f2 := World.ownsRow.frozenAt O6.out 2
                  have Hst := Lib.hid (stored3R O6.out (.int .i64 0) (.int .i64 0) (.slice none 0 0))
                  go_wp2_with fail
                  refine bodyPost_ret (results_cell1R rfl _ _ _ ⟨w.heap.size, 0, none⟩ rfl _ (load_ownR Hst.out.1)) rfl ?_
                  rw [HF.out]
                  exact ⟨none, 0, rfl, Sl.nil _ _, wrote3t B6.out Hst.out.2 (Nat.le_refl _)⟩
              · have hbe2 : (be == 0) = false := by simpa using hbe
                clear hsm z0 z1 z2
                have HF := Lib.hid (HN.out (fun h => by have h9 := HC.out.1 h; exact hbe (Prod.mk.inj h9.2.2.2.2.2.2).2))
                have k0 := World.ownsRow.cellAt O5.out 0 (by omega)
                have k1 := World.ownsRow.cellAt O5.out 1 (by omega)
                have k2 := World.ownsRow.cellAt O5.out 2 (by omega)
                simp only [List.getElem?_cons_zero, List.getElem?_cons_succ] at k0 k1 k2
                have f0 := World.ownsRow.frozenAt O5.out 0
                have f1 := World.ownsRow.frozenAt O5.out 1
                have f2 := World.ownsRow.frozenAt O5.out 2
                have Hst := Lib.hid (stored3R O5.out (.int .i64 0) (.int .i64 0) (.slice none 0 0))
                go_wp2_with fail
                refine bodyPost_ret (results_cell1R rfl _ _ _ ⟨w.heap.size, 0, none⟩ rfl _ (load_ownR Hst.out.1)) rfl ?_
                rw [HF.out]
                exact ⟨none, 0, rfl, Sl.nil _ _, wrote3t B5.out Hst.out.2 (Nat.le_refl _)⟩
            · have hyE2 : (yE == 0) = false := by simpa using hyE
              have HF := Lib.hid (HN.out (fun h => by have h9 := HC.out.1 h; exact hyE h9.2.2.2.2.2.1))
              have k0 := World.ownsRow.cellAt O3.out 0 (by omega)
              have k1 := World.ownsRow.cellAt O3.out 1 (by omega)
              have k2 := World.ownsRow.cellAt O3.out 2 (by omega)
              simp only [List.getElem?_cons_zero, List.getElem?_cons_succ] at k0 k1 k2
              have f0 := World.ownsRow.frozenAt O3.out 0
              have f1 := World.ownsRow.frozenAt O3.out 1
              have f2 := World.ownsRow.frozenAt O3.out 2
              have Hst := Lib.hid (stored3R O3.out (.int .i64 0) (.int .i64 0) (.slice none 0 0))
              go_wp2_with fail
              refine bodyPost_ret (results_cell1R rfl _ _ _ ⟨w.heap.size, 0, none⟩ rfl _ (load_ownR Hst.out.1)) rfl ?_
              rw [HF.out]
              exact ⟨none, 0, rfl, Sl.nil _ _, wrote3t B3.out Hst.out.2 (Nat.le_refl _)⟩
          · have q1 : ¬ (1099511627776 : Int) < (i : Int) := by omega
            have q2 : (576460752303423488 : Int) < (j : Int) := by omega
            have HF := Lib.hid (HN.out (fun h => by have h9 := HC.out.1 h; exact hj h9.2.2.2.2.1))
            have k0 := World.ownsRow.cellAt O2.out 0 (by omega)
            have k1 := World.ownsRow.cellAt O2.out 1 (by omega)
            have k2 := World.ownsRow.cellAt O2.out 2 (by omega)
            simp only [List.getElem?_cons_zero, List.getElem?_cons_succ] at k0 k1 k2
            have f0 := World.ownsRow.frozenAt O2.out 0
            have f1 := World.ownsRow.frozenAt O2.out 1
            have f2 := World.ownsRow.frozenAt O2.out 2
            have Hst := Lib.hid (stored3R O2.out (.int .i64 0) (.int .i64 0) (.slice none 0 0))
            go_wp2_with fail
            refine bodyPost_ret (results_cell1R rfl _ _ _ ⟨w.heap.size, 0, none⟩ rfl _ (load_ownR Hst.out.1)) rfl ?_
            rw [HF.out]
            exact ⟨none, 0, rfl, Sl.nil _ _, wrote3t B2.out Hst.out.2 (Nat.le_refl _)⟩
        · have q1 : (1099511627776 : Int) < (i : Int) := by omega
          have HF := Lib.hid (HN.out (fun h => by have h9 := HC.out.1 h; exact hi h9.2.2.2.1))
          have k0 := World.ownsRow.cellAt O2.out 0 (by omega)
          have k1 := World.ownsRow.cellAt O2.out 1 (by omega)
          have k2 := World.ownsRow.cellAt O2.out 2 (by omega)
          simp only [List.getElem?_cons_zero, List.getElem?_cons_succ] at k0 k1 k2
          have f0 := World.ownsRow.frozenAt O2.out 0
          have f1 := World.ownsRow.frozenAt O2.out 1
          have f2 := World.ownsRow.frozenAt O2.out 2
          have Hst := Lib.hid (stored3R O2.out (.int .i64 0) (.int .i64 0) (.slice none 0 0))
          go_wp2_with fail
          refine bodyPost_ret (results_cell1R rfl _ _ _ ⟨w.heap.size, 0, none⟩ rfl _ (load_ownR Hst.out.1)) rfl ?_
          rw [HF.out]
          exact ⟨none, 0, rfl, Sl.nil _ _, wrote3t B2.out Hst.out.2 (Nat.le_refl _)⟩
      · have hjE2 : (jE == 0) = false := by simpa using hjE
        have HF := Lib.hid (HN.out (fun h => by have h9 := HC.out.1 h; exact hjE h9.2.2.1))
        have k0 := World.ownsRow.cellAt O2.out 0 (by omega)
        have k1 := World.ownsRow.cellAt O2.out 1 (by omega)
        have k2 := World.ownsRow.cellAt O2.out 2 (by omega)
        simp only [List.getElem?_cons_zero, List.getElem?_cons_succ] at k0 k1 k2
        have f0 := World.ownsRow.frozenAt O2.out 0
        have f1 := World.ownsRow.frozenAt O2.out 1
        have f2 := World.ownsRow.frozenAt O2.out 2
        have Hst := Lib.hid (stored3R O2.out (.int .i64 0) (.int .i64 0) (.slice none 0 0))
        go_wp2_with fail
        refine bodyPost_ret (results_cell1R rfl _ _ _ ⟨w.heap.size, 0, none⟩ rfl _ (load_ownR Hst.out.1)) rfl ?_
        rw [HF.out]
        exact ⟨none, 0, rfl, Sl.nil _ _, wrote3t B2.out Hst.out.2 (Nat.le_refl _)⟩
    · have hiE2 : (iE == 0) = false := by simpa using hiE
      have hiE3 : ¬ (iE : Int) = 0 := by omega
      rw [if_neg hiE3] at hcj
      go_wp2_with fail
      refine hcj.mono ?_; rintro e w2x ⟨rfl, rfl⟩
      clear hcj
      have HF := Lib.hid (HN.out (fun h => by have h9 := HC.out.1 h; exact hiE h9.2.1))
      have k0 := World.ownsRow.cellAt O2.out 0 (by omega)
      have k1 := World.ownsRow.cellAt O2.out 1 (by omega)
      have k2 := World.ownsRow.cellAt O2.out 2 (by omega)
      simp only [List.getElem?_cons_zero, List.getElem?_cons_succ] at k0 k1 k2
      have f0 := World.ownsRow.frozenAt O2.out 0
      have f1 := World.ownsRow.frozenAt O2.out 1
      have f2 := World.ownsRow.frozenAt O2.out 2
      have Hst := Lib.hid (stored3R O2.out (.int .i64 0) (.int .i64 0) (.slice none 0 0))
      go_wp2_with fail
      refine bodyPost_ret (results_cell1R rfl _ _ _ ⟨w.heap.size, 0, none⟩ rfl _ (load_ownR Hst.out.1)) rfl ?_
      rw [HF.out]
      exact ⟨none, 0, rfl, Sl.nil _ _, wrote3t B2.out Hst.out.2 (Nat.le_refl _)⟩
  · have hE2 : (E == 0) = false := by simpa using hE
    have HF := Lib.hid (HN.out (fun h => by have h9 := HC.out.1 h; exact hE h9.1))
    have k0 := World.ownsRow.cellAt O2.out 0 (by omega)
    have k1 := World.ownsRow.cellAt O2.out 1 (by omega)
    have k2 := World.ownsRow.cellAt O2.out 2 (by omega)
    simp only [List.getElem?_cons_zero, List.getElem?_cons_succ] at k0 k1 k2
    have f0 := World.ownsRow.frozenAt O2.out 0
    have f1 := World.ownsRow.frozenAt O2.out 1
    have f2 := World.ownsRow.frozenAt O2.out 2
    have Hst := Lib.hid (stored3R O2.out (.int .i64 0) (.int .i64 0) (.slice none 0 0))
    go_wp2_with fail
    refine bodyPost_ret (results_cell1R rfl _ _ _ ⟨w.heap.size, 0, none⟩ rfl _ (load_ownR Hst.out.1)) rfl ?_
    rw [HF.out]
    exact ⟨none, 0, rfl, Sl.nil _ _, wrote3t B2.out Hst.out.2 (Nat.le_refl _)⟩
end Go.Proofs.YtemegkapmgcffaaGreat
