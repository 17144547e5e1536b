import Derived.Test.YtcidifmikcnkcaaPureOne
/- RingCaps: the walk. -/
namespace Go.Proofs.Ytcidifmikcnkcaa
open Go.RowKit Go.Maps Go.WideShapes Go.WideMaps Go.Sort
set_option linter.unusedSimpArgs false
set_option linter.unusedVariables false

abbrev nQ : Nm := [113]
theorem nQ_len : nQ.length ≤ maxLen := by unfold maxLen; decide
theorem nQ_ok : namedB nQ = true := by rfl
theorem one_l {nm : Nm} {M m : Int} {l : List Int} : (one nm M m l).length ≤ 100000 := Nat.le_trans one_len (by omega)
set_option maxRecDepth 100000 in
set_option maxHeartbeats 8000000 in
theorem walk_caps (a g : Nat) (ha : a ≤ 255) (hg : g ≤ 255) (W : World) :
    Calls Try.prog 8 #[.int .u8 (a : Int), .int .u8 (g : Int)] W fun e w' => e = .returned (.bool true) ∧ Below W.heap.size W w' := by
  have hm1 : ((a : Int)).tmod 30 = ((a % 30 : Nat) : Int) := by rw [Int.tmod_eq_emod_of_nonneg (by omega)]; omega
  have hm2 : ((g : Int)).tmod 40 = ((g % 40 : Nat) : Int) := by rw [Int.tmod_eq_emod_of_nonneg (by omega)]; omega
  have hm3 : ((a : Int)) % 30 = ((a % 30 : Nat) : Int) := by omega
  have hm4 : ((g : Int)) % 40 = ((g % 40 : Nat) : Int) := by omega
  obtain ⟨ra, hra⟩ : ∃ ra, ra = a % 30 := ⟨_, rfl⟩
  obtain ⟨rg, hrg⟩ : ∃ rg, rg = g % 40 := ⟨_, rfl⟩
  have hra2 : ra < 30 := by omega
  have hrg2 : rg < 40 := by omega
  rw [← hra] at hm1 hm3
  rw [← hrg] at hm2 hm4
  clear hra hrg
  go_enter Try.func8, Try.ntmps8
  go_wp2_with fail
  refine (New_any W 30).mono ?_; rintro e w0 ⟨hn, b0⟩
  rw [if_pos (by decide)] at hn
  obtain ⟨p, rfl, h0⟩ := hn
  go_wp2_with fail
  go_loopw [9] (fun s9 wx => ∃ (k : Nat) (l : List Int), k ≤ ra + 1 ∧ s9 = .int .i64 (k : Int) ∧ l = (List.range k).map (fun j : Nat => (j : Int)) ∧ RIs wx W.heap.size p 30 (one nQ 30 30 l) ∧ Below W.heap.size W wx) (fun iv _ => ra + 1 - (intOf iv).toNat)
  case atStart => exact ⟨0, [], by omega, rfl, rfl, h0, b0⟩
  case round =>
    obtain ⟨k, l, hk, rfl, hl, h1, b1⟩ := hrel
    have hll : l.length = k := by rw [hl]; simp
    by_cases hkn : k < ra + 1
    · have hP : putR (one nQ 30 30 l) 30 nQ (k : Int) = (0, one nQ 30 30 (l ++ [(k : Int)])) := by rw [one_put nQ_ok, if_neg (by omega)]
      go_wp2_with fail
      refine (Put_any h1 nQ nQ_len (k : Int) one_l).mono ?_; rintro e w2 ⟨rfl, h2, c2⟩
      rw [hP] at h2 ⊢
      have b2 := b1.trans c2
      have hl2 : l ++ [(k : Int)] = (List.range (k + 1)).map (fun j : Nat => (j : Int)) := by rw [hl, List.range_succ]; simp
      clear hP h1 b1 c2
      go_wp2_with fail
      go_roundw
      case rel => exact ⟨k + 1, _, by omega, by go_num, hl2, h2, b2⟩
      case measure => simp [intOf]; omega
    · obtain rfl : k = ra + 1 := by omega
      have e1 : (l.length : Int) = 1 + (ra : Int) := by omega
      have hcap : capR (one nQ 30 30 l) 30 nQ (1 + (rg : Int)) = (0, one nQ 30 (1 + (rg : Int)) l) := one_cap nQ_ok (by omega)
      go_wp2_with fail
      refine (Cap_any h1 nQ nQ_len (1 + (rg : Int)) one_l).mono ?_; rintro e w2 ⟨rfl, h2, c2⟩
      rw [hcap] at h2 ⊢
      have b2 := b1.trans c2
      clear hcap h1 b1 c2
      go_wp2_with fail
      refine (Len_any h2 nQ nQ_len).mono ?_; rintro e w3 ⟨rfl, c3⟩
      rw [one_getQ nQ_ok]
      simp only [e1]
      have h3 := h2.below c3
      have b3 := b2.trans (c3.mono b2.size)
      clear h2 b2 c3
      go_wp2_with fail
      refine (Room_any h3 nQ nQ_len).mono ?_; rintro e w4 ⟨rfl, c4⟩
      rw [one_getQ nQ_ok]
      simp only [e1]
      have h4 := h3.below c4
      have b4 := b3.trans (c4.mono b3.size)
      clear h3 b3 c4 e1 hll
      go_wp2_with fail
      go_loopw [10] (fun s10 wx => ∃ (i : Nat) (l : List Int), i ≤ ra + 1 ∧ s10 = .int .i64 (i : Int) ∧ l = ((List.range (ra + 1)).drop i).map (fun j : Nat => (j : Int)) ∧ RIs wx W.heap.size p 30 (one nQ 30 (1 + (rg : Int)) l) ∧ Below W.heap.size W wx) (fun iv _ => ra + 1 - (intOf iv).toNat)
      case atStart => exact ⟨0, l, by omega, rfl, by rw [hl, List.drop_zero], h4, b4⟩
      case round =>
        obtain ⟨i, l, hi, rfl, hl, h1, b1⟩ := hrel
        have hll : (l.length : Int) = (ra : Int) + 1 - (i : Int) := by rw [hl]; simp; omega
        go_wp2_with fail
        refine (Len_any h1 nQ nQ_len).mono ?_; rintro e w2 ⟨rfl, c2⟩
        rw [one_getQ nQ_ok]
        have h2 := h1.below c2
        have b2 := b1.trans (c2.mono b1.size)
        simp only [hll]
        clear h1 b1 c2
        by_cases hgo : 1 + (rg : Int) ≤ (ra : Int) + 1 - (i : Int)
        · obtain ⟨x, r, hxr⟩ : ∃ x r, l = x :: r := by
            cases l with
            | nil => simp at hll; omega
            | cons x r => exact ⟨x, r, rfl⟩
          have hil : i < ra + 1 := by omega
          have hd : (List.range (ra + 1)).drop i = i :: (List.range (ra + 1)).drop (i + 1) := by
            rw [List.drop_eq_getElem_cons (by simpa using hil)]
            simp
          have hx : x = (i : Int) ∧ r = ((List.range (ra + 1)).drop (i + 1)).map (fun j : Nat => (j : Int)) := by
            rw [hd, List.map_cons] at hl
            rw [hxr] at hl
            simpa using hl
          obtain ⟨rfl, hr⟩ := hx
          have hput : putR (one nQ 30 (1 + (rg : Int)) l) 30 nQ 99 = (50, one nQ 30 (1 + (rg : Int)) l) := by rw [one_put nQ_ok, if_pos (by omega)]
          have htake : takeR (one nQ 30 (1 + (rg : Int)) l) 30 nQ = one nQ 30 (1 + (rg : Int)) r := by rw [hxr]; exact one_take nQ_ok _ _
          have hlook : lookR (getQ (one nQ 30 (1 + (rg : Int)) l) 30 nQ) = ((i : Int), true) := by rw [one_getQ nQ_ok, hxr]; rfl
          have Hr := Lib.hid hr
          clear hxr hd hr hll hl
          go_wp2_with fail
          refine (Put_any h2 nQ nQ_len 99 one_l).mono ?_; rintro e w3 ⟨rfl, h3, c3⟩
          rw [hput] at h3 ⊢
          have b3 := b2.trans c3
          clear h2 b2 c3
          go_wp2_with fail
          refine (takes_any h3 nQ nQ_len one_l (i : Int) true hlook).mono ?_; rintro e w4 ⟨rfl, h4, c4⟩
          rw [htake] at h4
          have b4 := b3.trans c4
          clear h3 b3 c4 hput htake hlook
          go_wp2_with fail
          go_roundw
          case rel => exact ⟨i + 1, r, by omega, by go_num, Hr.out, h4, b4⟩
          case measure => simp [intOf]; omega
        · clear hl
          obtain ⟨m0, hm0⟩ : ∃ m0, m0 = l.length := ⟨_, rfl⟩
          have hm0r : (m0 : Int) < 1 + (rg : Int) := by omega
          have e0 : (l.length : Int) = (m0 : Int) := by omega
          obtain ⟨rm, hrm⟩ : ∃ rm : Nat, rm + m0 = rg + 1 := ⟨rg + 1 - m0, by omega⟩
          have hmx : max (1 + (rg : Int) - (m0 : Int)) 0 = (rm : Int) := by omega
          have hlm := hm0.symm
          clear hm0 hll
          go_wp2_with fail
          refine (Room_any h2 nQ nQ_len).mono ?_; rintro e w3 ⟨rfl, c3⟩
          rw [one_getQ nQ_ok]
          have h3 := h2.below c3
          have b3 := b2.trans (c3.mono b2.size)
          simp only [e0, hmx]
          clear h2 b2 c3 e0 hmx
          go_wp2_with fail
          go_loopw [12] (fun s12 wx => ∃ (j : Nat) (l : List Int), j ≤ rm ∧ s12 = .int .i64 (j : Int) ∧ l.length = m0 + j ∧ RIs wx W.heap.size p 30 (one nQ 30 (1 + (rg : Int)) l) ∧ Below W.heap.size W wx) (fun iv _ => rm - (intOf iv).toNat)
          case atStart => exact ⟨0, l, by omega, rfl, by omega, h3, b3⟩
          case round =>
            obtain ⟨j, l, hj, rfl, hlj, h1, b1⟩ := hrel
            by_cases hjr : j < rm
            · have hput : putR (one nQ 30 (1 + (rg : Int)) l) 30 nQ (100 + (j : Int)) = (0, one nQ 30 (1 + (rg : Int)) (l ++ [100 + (j : Int)])) := by rw [one_put nQ_ok, if_neg (by omega)]
              go_wp2_with fail
              refine (Put_any h1 nQ nQ_len (100 + (j : Int)) one_l).mono ?_; rintro e w4 ⟨rfl, h4, c4⟩
              rw [hput] at h4 ⊢
              have b4 := b1.trans c4
              clear h1 b1 c4 hput
              go_wp2_with fail
              go_roundw
              case rel => exact ⟨j + 1, _, by omega, by go_num, by rw [List.length_append]; simp only [List.length_cons, List.length_nil]; omega, h4, b4⟩
              case measure => simp [intOf]; omega
            · obtain rfl : j = rm := by omega
              have e1 : (l.length : Int) = 1 + (rg : Int) := by omega
              have hput : putR (one nQ 30 (1 + (rg : Int)) l) 30 nQ 99 = (50, one nQ 30 (1 + (rg : Int)) l) := by rw [one_put nQ_ok, if_pos (by omega)]
              have hcap : capR (one nQ 30 (1 + (rg : Int)) l) 30 nQ 30 = (0, one nQ 30 30 l) := one_cap nQ_ok (by omega)
              clear hlj hrm hm0r hlm
              go_wp2_with fail
              refine (Put_any h1 nQ nQ_len 99 one_l).mono ?_; rintro e w4 ⟨rfl, h4, c4⟩
              rw [hput] at h4 ⊢
              have b4 := b1.trans c4
              clear h1 b1 c4 hput
              go_wp2_with fail
              refine (Len_any h4 nQ nQ_len).mono ?_; rintro e w5 ⟨rfl, c5⟩
              rw [one_getQ nQ_ok]
              simp only [e1]
              have h5 := h4.below c5
              have b5 := b4.trans (c5.mono b4.size)
              clear h4 b4 c5 e1
              go_wp2_with fail
              refine (Cap_any h5 nQ nQ_len 30 one_l).mono ?_; rintro e w6 ⟨rfl, h6, c6⟩
              rw [hcap] at h6 ⊢
              have b6 := b5.trans c6
              clear h5 b5 c6 hcap
              go_wp2_with fail
              obtain ⟨P, hP⟩ : ∃ P : Nat → World → Prop, P = fun n wx => ∃ l : List Int, l.length = n ∧ RIs wx W.heap.size p 30 (one nQ 30 30 l) ∧ Below W.heap.size W wx := ⟨_, rfl⟩
              have HP := Lib.hid hP
              clear hP
              go_loopw [] (fun wx => Hid (∃ n, P n wx)) (fun wx => leastN (fun n => P n wx))
              case atStart => exact Lib.hid ⟨l.length, by rw [HP.out]; exact ⟨l, rfl, h6, b6⟩⟩
              case round =>
                rename World => wr
                obtain ⟨n0, hn0⟩ : ∃ n0, n0 = leastN (fun n => P n wr) := ⟨_, rfl⟩
                have hsp := (least_spec hrel.out).1
                rw [← hn0, HP.out] at hsp
                obtain ⟨l, hln, h7, b7⟩ := hsp
                have Hn0 := Lib.hid hn0
                clear hn0
                have e7 : (l.length : Int) = (n0 : Int) := by omega
                go_wp2_with fail
                refine (Len_any h7 nQ nQ_len).mono ?_; rintro e w8 ⟨rfl, c8⟩
                rw [one_getQ nQ_ok]
                simp only [e7]
                have h8 := h7.below c8
                have b8 := b7.trans (c8.mono b7.size)
                clear h7 b7 c8 e7
                by_cases h0n : 0 < n0
                · obtain ⟨x, r, rfl⟩ : ∃ x r, l = x :: r := by
                    cases l with
                    | nil => simp at hln; omega
                    | cons x r => exact ⟨x, r, rfl⟩
                  have htake : takeR (one nQ 30 30 (x :: r)) 30 nQ = one nQ 30 30 r := one_take nQ_ok _ _
                  go_wp2_with fail
                  refine (Take_any h8 nQ nQ_len one_l).mono ?_; rintro e w9 ⟨rfl, h9, c9⟩
                  rw [htake] at h9
                  have b9 := b8.trans c9
                  clear h8 b8 c9 htake
                  have hp9 : P r.length w9 := by rw [HP.out]; exact ⟨r, rfl, h9, b9⟩
                  have hle := least_le (p := fun n => P n w9) hp9
                  have hlr : r.length < leastN (fun n => P n wr) := by rw [← Hn0.out, ← hln]; simp
                  go_wp2_with fail
                  go_roundw
                  case rel => exact Lib.hid ⟨_, hp9⟩
                  case measure => omega
                · obtain rfl : l = [] := List.eq_nil_of_length_eq_zero (by omega)
                  obtain rfl : n0 = 0 := by omega
                  clear hln
                  go_wp2_with fail
                  refine (Names_any h8 one_l).mono ?_; rintro e w9 ⟨A9, c9', rfl, s9, c9⟩
                  rw [show (heldN (one nQ 30 30 [])).length = 0 by rw [one_held, if_pos rfl]; rfl]
                  have h9 := h8.below c9
                  have b9 := b8.trans (c9.mono b8.size)
                  clear h8 b8 c9 s9
                  go_wp2_with fail
                  refine (Room_any h9 nQ nQ_len).mono ?_; rintro e w10 ⟨rfl, c10⟩
                  rw [one_getQ nQ_ok]
                  rw [show max ((30 : Int) - (([] : List Int).length : Int)) 0 = 30 by rfl]
                  have b10 := b9.trans (c10.mono b9.size)
                  go_wp2_with fail
                  refine (awake8_any _).mono ?_; rintro e w11 ⟨rfl, c11⟩
                  go_wp2_with fail
                  go_ret
                  exact ⟨rfl, b10.trans (c11.mono b10.size)⟩
theorem walk_caps2 (x0 x1 : Int) (h0 : (Lit.int .u8 x0).wf = true) (h1 : (Lit.int .u8 x1).wf = true) (W : World) :
    Calls Try.prog 8 #[.int .u8 x0, .int .u8 x1] W fun e w' => e = .returned (.bool true) ∧ Below W.heap.size W w' := by
  have k0 : 0 ≤ x0 ∧ x0 ≤ 255 := by simp [Lit.wf, IntKind.min, IntKind.max, IntKind.signed, IntKind.bits] at h0; omega
  have k1 : 0 ≤ x1 ∧ x1 ≤ 255 := by simp [Lit.wf, IntKind.min, IntKind.max, IntKind.signed, IntKind.bits] at h1; omega
  obtain ⟨a, rfl⟩ : ∃ a : Nat, x0 = (a : Int) := ⟨x0.toNat, by omega⟩
  obtain ⟨g, rfl⟩ : ∃ g : Nat, x1 = (g : Int) := ⟨x1.toNat, by omega⟩
  exact walk_caps a g (by omega) (by omega) W
end Go.Proofs.Ytcidifmikcnkcaa
