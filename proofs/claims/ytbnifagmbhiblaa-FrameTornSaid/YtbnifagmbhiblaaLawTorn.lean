import Derived.Test.YtbnifagmbhiblaaTornA
import Derived.Test.YtbnifagmbhiblaaTornB
import Derived.Test.YtbnifagmbhiblaaLawBack
import Derived.Lib.AppendZerosOnto
import Derived.Laws.OwnMore
namespace Go.Proofs.Ytbnifagmbhiblaa
open Go.RowKit
set_option linter.unusedSimpArgs false
set_option linter.unusedVariables false

theorem bytesV_zeros (z : Nat) : (Builtin.zeroCells (Value.int .u8 0).cells z).toList = bytesV (List.replicate z 0) := by
  have h : Builtin.zeroCells (Value.int .u8 0).cells z = madeCells #[.int .u8 0] z := by
    rw [show (Value.int .u8 0).cells = #[.int .u8 0] from rfl]; unfold Builtin.zeroCells madeCells; simp
  rw [h, toList_madeCells_one]
  unfold bytesV byteV
  simp

/-- noughts behind bytes of the call's own that fill their row -/
theorem zeros_behind (w : World) (base g n k : Nat) (l : List UInt8) (ty : TypeId) (kq : IntKind) (hs : Sl w 1 (some ⟨g, 0, none⟩) n n (bytesV l)) (hn : n ≤ 100000) (hk : k ≤ 1000) :
    ∃ A c w', (Builtin.append_ #[26, 3] ty #[.slice (some ⟨g, 0, none⟩) n n, .int kq k]).run Try.prog w = .ok (.slice A (n + k) c) w' ∧ Sl w' 1 A (n + k) c (bytesV (l ++ List.replicate k 0)) ∧ Below w.heap.size w w' := by
  obtain ⟨i, hi, hz, hsz, hb⟩ := info_parts infoByte
  by_cases h0 : k = 0
  · subst h0
    refine ⟨some ⟨g, 0, none⟩, n, w, ?_, by simpa using hs, Below.refl _ _⟩
    have hw0 : IntKind.i64.wrap 0 = 0 := by rw [IntKind.wrap_i64]; rfl
    simp [Builtin.append_, run_underlying Try.underlying26, run_underlying Try.underlying3, sizeOf, typeInfo, hi, asInt, asIntOf, hw0, storeCells]
  · have hold : (Builtin.firstCells i.size n (.slice (some ⟨g, 0, none⟩) n n)).run Try.prog w.drew = .ok (bytesV l).toArray w.drew := by
      rw [hsz]
      exact run_firstCells_some (P := Try.prog) w.drew 1 n _ n n (bytesV l) (by have := hs.len; omega) (fun j u hj => by obtain ⟨ad, e, h⟩ := hs.cells j u hj; cases e; exact h)
    have hrun := Lib.run_append_grow_zeros (P := Try.prog) w 26 3 ty 5 i (.int .u8 0) kq .i64 Try.underlying26 Try.underlying3 hi hz (some ⟨g, 0, none⟩) n n (bytesV l) hold k (by omega) (by omega) (by omega) (by omega) (by rw [hb]; omega)
      (Nat.le_trans (growslice_fits (by omega) (by rw [hb]; omega)) (by omega))
    refine ⟨_, _, _, hrun, ?_, (Below.refl _ _).drew.alloc (by simp) _⟩
    have hge := grownCap_ge w (n + k) n 5
    obtain ⟨m, hm⟩ : ∃ m, m = grownCap w (n + k) n 5 := ⟨_, rfl⟩
    rw [← hm] at hge ⊢
    have e : (bytesV l).toArray ++ Builtin.zeroCells (Value.int .u8 0).cells k ++ Builtin.zeroCells (Value.int .u8 0).cells (m - (n + k)) = (bytesV (l ++ (List.replicate k 0 ++ List.replicate (m - (n + k)) 0))).toArray := by
      apply Array.ext'
      simp only [Array.toList_append, bytesV_zeros, bytesV_append, List.append_assoc]
    rw [e]
    have hl := hs.blen
    have h1 := sl_new w.drew (l ++ (List.replicate k 0 ++ List.replicate (m - (n + k)) 0)) 5 m (by simp; omega)
    have h2 := slb_to h1 (n + k) (by omega)
    have h3 : (l ++ (List.replicate k 0 ++ List.replicate (m - (n + k)) 0)).take (n + k) = l ++ List.replicate k 0 := by
      rw [← List.append_assoc, List.take_append_of_le_length (by simp; omega), List.take_of_length_le (by simp; omega)]
    rw [h3] at h2
    exact h2

theorem ends_at (gs : List Part) : ∀ (a i : Nat), i < gs.length → (endsOf a gs)[i]? = some (a + (frames (gs.take (i + 1))).length) := by
  induction gs with
  | nil => intro a i h; simp at h
  | cons q r ih =>
    intro a i h
    cases i with
    | zero => simp [endsOf, frames]
    | succ i =>
      simp only [endsOf, List.getElem?_cons_succ, List.take_succ_cons]
      rw [ih _ i (by simpa using h)]
      simp [frames]; omega
theorem torn_plain (gs : List Part) (i k z : Nat) (hg : ∀ q ∈ gs, 0 < q.l.length ∧ q.l.length ≤ 200) (hi : i ≤ gs.length) (hk : (frames (gs.take i)).length ≤ k) (hk2 : k ≤ (frames gs).length)
    (hend : i = gs.length ∨ k < (frames (gs.take (i + 1))).length) : ∃ r, (frames gs).take k ++ List.replicate z 0 = frames (gs.take i) ++ r ∧ (fg r 0).2.2 ≠ 0 := by
  by_cases hl : i = gs.length
  · rw [hl, List.take_length] at hk ⊢
    refine ⟨List.replicate z 0, ?_, fg_noughts z⟩
    rw [List.take_of_length_le (by omega)]
  · have hend := hend.resolve_left hl
    have hlt : i < gs.length := by omega
    have e3 : gs.take (i + 1) = gs.take i ++ [gs[i]] := List.take_succ_eq_append_getElem hlt
    rw [e3, frames_snoc, List.length_append] at hend
    have e1 : gs = gs.take i ++ gs[i] :: gs.drop (i + 1) := by rw [List.getElem_cons_drop, List.take_append_drop]
    have e2 : frames gs = frames (gs.take i) ++ (frm (gs[i]).l ++ frames (gs.drop (i + 1))) :=
      (congrArg frames e1).trans (by simp only [frames, List.flatMap_append, List.flatMap_cons])
    have hq := hg _ (List.getElem_mem hlt)
    refine ⟨(frm (gs[i]).l).take (k - (frames (gs.take i)).length) ++ List.replicate z 0, ?_, fg_cut _ _ z hq.1 (by omega) (by omega)⟩
    rw [e2, List.take_append, List.take_of_length_le hk, List.take_append_of_le_length (by omega), List.append_assoc]
theorem cutl_to (kl : IntKind) (A : Option Addr) (n c m : Nat) (M : Int) (hM : M = (m : Int)) (hm : m ≤ c) (W : World) :
    (Instr.slice 63 (.slice A n c) none (some (.int kl M)) none).run Try.prog W = .ok (.slice A m c) W := by
  obtain ⟨i0, hi, hz0, hz1, hz2⟩ := info_parts infoSlice
  exact cut_to (P := Try.prog) 63 26 kl Try.underlying63 hi A n c m M hM hm W
theorem Ls.take {w : World} {A : Option Addr} {n c : Nat} {qs : List Part} (h : Ls w A n c qs) (m : Nat) (hm : m ≤ n) : Ls w A m c (qs.take m) := by
  refine ⟨?_, fun q hq => h.each q (List.mem_of_mem_take hq)⟩
  have h1 := h.sl.to_ m hm
  rw [Nat.mul_one, ← List.map_take] at h1
  exact h1

set_option maxRecDepth 100000 in
set_option maxHeartbeats 2000000 in
theorem walk_torn (P : Option Addr) (m d : Nat) (qs : List Part) (ct zn : Nat) (w : World) (hp : Ls w P m d qs) (hm : m ≤ 9223372036854775807) (hct : ct < 65536) (hzn : zn < 65536) :
    Calls Try.prog 12 #[.slice P m d, .int .u16 (ct : Int), .int .u16 (zn : Int)] w fun e w' => e = .returned (.bool true) ∧ Below w.heap.size w w' := by
  obtain ⟨gs, hgs⟩ : ∃ gs, gs = goods qs 20 := ⟨_, rfl⟩
  have hgl : gs.length ≤ 20 := by rw [hgs]; exact goods_len qs 20
  have hgq : ∀ q ∈ gs, 0 < q.l.length ∧ q.l.length ≤ 200 := by
    intro q hq
    rw [hgs] at hq
    have h4 := goods_good qs 20 q hq
    have h5 := (hp.each q h4.2).blen
    have h6 := h4.1
    simp [goodB] at h6
    omega
  have hfl := frames_len_le gs (fun q hq => (hgq q hq).2)
  have Hgq := Lib.hid hgq
  obtain ⟨z, hz⟩ : ∃ z, z = zn % 301 := ⟨_, rfl⟩
  have hzl : z ≤ 300 := by omega
  have hzm : (zn : Int).tmod 301 = (z : Int) := by rw [hz, Int.tmod_eq_emod_of_nonneg (by omega)]; simp
  clear hgq hz
  go_enter Try.func12, Try.ntmps12
  go_wp2_with fail
  refine (framed_any P m d qs _ hp hm).mono ?_; rintro e w1 ⟨A1, n1, c1, A2, n2, c2, A3, n3, c3, rfl, sf, hl, he, hb1⟩
  rw [← hgs] at sf hl he
  have hn1 := sf.blen
  have hn2 := hl.len
  have hn3 := he.len
  rw [List.length_map, endsOf_len, Nat.mul_one] at hn3
  have hn1b : n1 ≤ 4300 := by omega
  have hn2b : n2 ≤ 20 := by omega
  have hn32 : n3 = n2 := by omega
  subst hn32
  obtain ⟨k, hk⟩ : ∃ k, k = ct % (n1 + 1) := ⟨_, rfl⟩
  have hkl : k ≤ n1 := by have := Nat.mod_lt ct (show 0 < n1 + 1 by omega); omega
  have hkm : (ct : Int).tmod ((n1 : Int) + 1) = (k : Int) := by rw [hk, Int.tmod_eq_emod_of_nonneg (by omega)]; simp
  have hkz : ¬ ((n1 : Int) + 1 = 0) := by omega
  have Hn1 := Lib.hid hn1
  have Hn2 := Lib.hid hn2
  clear hgs hp hn1 hn2 hn3 hfl hk
  go_upto_block 0 with fail
  clear hkm hkz
  go_cut [12, 13] (fun s4 s5 wx => ∃ i at_ : Nat, i ≤ n3 ∧ s4 = .int .i64 (i : Int) ∧ s5 = .int .i64 (at_ : Int) ∧ Hid (at_ = (frames (gs.take i)).length) ∧ at_ ≤ k ∧ Hid (i = n3 ∨ k < (frames (gs.take (i + 1))).length) ∧ Below w1.heap.size w1 wx)
  case first =>
    go_wp2_with fail
    go_loopw [12, 13] (fun iv s5 wx => ∃ i at_ : Nat, i ≤ n3 ∧ iv = .int .i64 (i : Int) ∧ s5 = .int .i64 (at_ : Int) ∧ Hid (at_ = (frames (gs.take i)).length) ∧ at_ ≤ k ∧ Below w1.heap.size w1 wx) (fun iv _ _ => n3 - (intOf iv).toNat)
    case atStart => exact ⟨0, 0, by omega, rfl, rfl, Lib.hid (by simp [frames]), by omega, Below.refl _ _⟩
    case round =>
      obtain ⟨i, at_, hi, rfl, rfl, Hat, hak, hbx⟩ := hrel
      by_cases hlt : i < n3
      · have hen := ends_at gs 0 i (by rw [Hn2.out]; exact hlt)
        obtain ⟨en, hen2⟩ : ∃ en, en = (frames (gs.take (i + 1))).length := ⟨_, rfl⟩
        rw [Nat.zero_add, ← hen2] at hen
        obtain ⟨ad, hA3, hcell⟩ := (he.below hbx).cells i (intV en) (by simp [hen])
        subst hA3
        unfold intV at hcell
        have Hen2 := Lib.hid hen2
        have hin : (0 : Int) ≤ (i : Int) ∧ (i : Int) < (n3 : Int) := by omega
        clear hen hen2 he
        by_cases hle : en ≤ k
        · go_wp2_with fail
          go_roundw
          case rel => exact ⟨i + 1, en, by omega, by go_num, rfl, Hen2, hle, hbx⟩
          case measure => simp [intOf]; omega
        · go_wp2_with fail
          go_meet
          exact ⟨i, at_, hi, rfl, rfl, Hat, hak, Lib.hid (.inr (by rw [← Hen2.out]; omega)), hbx⟩
      · obtain rfl : i = n3 := by omega
        go_wp2_with fail
        go_meet
        exact ⟨i, at_, hi, rfl, rfl, Hat, hak, Lib.hid (.inl rfl), hbx⟩
  case rest =>
    obtain ⟨i, at_, hi, rfl, rfl, Hat, hak, Hend, hbx⟩ := hcut
    have sf2 := sf.below hbx
    have hl2 := hl.below hbx
    have hbA := hb1.trans (hbx.mono hb1.size)
    generalize wc = w2 at *
    clear sf hl he hb1 hbx
    obtain ⟨r, hr1, hr2⟩ := torn_plain gs i k z Hgq.out (by rw [Hn2.out]; exact hi) (by rw [← Hat.out]; exact hak) (by rw [Hn1.out]; exact hkl) (by rw [Hn2.out]; exact Hend.out)
    have Hr1 := Lib.hid hr1
    have Hr2 := Lib.hid hr2
    have hcut := cutb_to .i64 A1 n1 c1 k (k : Int) rfl (Nat.le_trans hkl sf2.le)
    have hcut2 := cutl_to .i64 A2 n3 c2 i (i : Int) rfl (Nat.le_trans hi hl2.sl.le)
    have sfk := slb_to sf2 k hkl
    have hlk := hl2.take i hi
    clear hr1 hr2 hl2 sf2
    go_wp2_with (first | (go_at_call 24; refine (copyBytes_any _ _ _ ((frames gs).take k) _ sfk (by omega)).mono ?_; rintro e w3 ⟨rfl, hown3, hb3⟩) | (at_builtin; obtain ⟨A4, c4, w4, hr4, hs4, hb4⟩ := zeros_behind w3 0 w2.heap.size k z _ 26 .i64 (ownsRow_sl hown3) (by omega) (by omega); refine Lib.wpList_append_run _ rfl (.tmp 53) (.tmp 56) 26 3 rfl _ _ rfl rfl _ _ hr4 ?_) | (go_at_call 52; rw [Hr1.out] at hs4; refine (whole_any _ _ _ (gs.take i) r _ hs4 (by omega) (fun q hq => by have := Hgq.out q (List.mem_of_mem_take hq); omega) Hr2.out (by rw [List.length_take]; omega)).mono ?_; rintro e w5 ⟨A5, n5, c5, qs5, rfl, hl5, hm5, hb5⟩; rw [← Hat.out]; have hn5 : n5 = i := (by have h8 := hl5.len; have h9 := congrArg List.length hm5; have h10 := Hn2.out; simp only [List.length_map, List.length_take] at h9; omega); subst hn5; have hbB := hb3.trans (hb4.mono hb3.size); have hbC := hbB.trans (hb5.mono hbB.size); have hbD := hbA.trans (hbC.mono hbA.size); have hlk2 := hlk.below hbC; clear hown3 hr4 hs4 sfk hlk) | (go_at_call 53; refine (sameLists_any _ _ _ _ _ _ _ _ hl5 hlk2 hm5 (by omega)).mono ?_; rintro e w6 ⟨rfl, hb6⟩) | (go_at_call 47; refine (awake03_any _).mono ?_; rintro e w7 ⟨rfl, hb7⟩))
    go_ret
    have hbE := hbD.trans (hb6.mono hbD.size)
    exact ⟨rfl, hbE.trans (hb7.mono hbE.size)⟩
theorem walk_frameTorn (P : Option Addr) (m d : Nat) (qs : List Part) (a1 a2 : Int) (w : World) (hp : Ls w P m d qs) (hm : m ≤ 9223372036854775807) (h1 : (Lit.int .u16 a1).wf = true) (h2 : (Lit.int .u16 a2).wf = true) :
    Calls Try.prog 12 #[.slice P m d, .int .u16 a1, .int .u16 a2] w fun e w' => e = .returned (.bool true) ∧ Below w.heap.size w w' := by
  simp [Lit.wf, IntKind.min, IntKind.max, IntKind.signed, IntKind.bits] at h1 h2
  obtain ⟨x1, rfl⟩ := Int.eq_ofNat_of_zero_le (show 0 ≤ a1 by omega)
  obtain ⟨x2, rfl⟩ := Int.eq_ofNat_of_zero_le (show 0 ≤ a2 by omega)
  exact walk_torn P m d qs x1 x2 w hp hm (by omega) (by omega)
end Go.Proofs.Ytbnifagmbhiblaa
