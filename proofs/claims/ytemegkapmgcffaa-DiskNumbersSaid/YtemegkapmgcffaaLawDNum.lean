import Derived.Test.YtemegkapmgcffaaPureNum
import Derived.Test.YtemegkapmgcffaaDkX
import Derived.Test.YtemegkapmgcffaaDlB
/- DiskNumbers: the walk (printed by wip/gen/gnum.py). -/
namespace Go.Proofs.Ytemegkapmgcffaa
open Go.RowKit
set_option linter.unusedSimpArgs false
set_option linter.unusedVariables false

theorem append_nil {W w : World} {p : Nat} {D D' : Dk} {s : ByteArray} {nm : Nm} {r : Int} (h : Dsk W w p D) (hs : s = bstr nm) (hl : nm.length ≤ maxLen) (hr : appendD D nm [] = (r, D')) :
    Calls Try.prog 33 #[.pointer (some ⟨p, 0, none⟩), .string s, .slice none 0 0] w fun x w' => x = .returned (.int .i64 r) ∧ Dsk W w' p D' :=
  append_dsk h (Below.refl _ _) hs hl (sl_nilF _) (fun h => absurd rfl h) (by decide) hr
theorem bstr_cat (a b : Nm) : bstr a ++ bstr b = bstr (a ++ b) := by
  apply ByteArray.ext
  simp [bstr]
theorem wrap_u8_nat' {z : Int} (n : Nat) (h : n < 256) (hz : z = (n : Int)) : IntKind.u8.wrap z = z := by
  rw [hz]
  simp [IntKind.wrap, IntKind.bits, IntKind.signed]; omega
def x61 : Nm := List.replicate 61 120
def d60 : Nm := List.replicate 60 45
set_option maxRecDepth 100000 in
theorem rep_x (w : World) : Calls Try.prog 50 #[.string { data := #[120] }, .int .i64 61] w fun e w' => e = .returned (.string (bstr x61)) ∧ Below w.heap.size w w' :=
  (Try.strings_Repeat { data := #[120] } 61 w (by omega) (by show 1 * 61 ≤ _; omega)).mono fun e w' ⟨h1, h2⟩ => ⟨by rw [h1]; rfl, h2⟩
set_option maxRecDepth 100000 in
theorem rep_d (w : World) : Calls Try.prog 50 #[.string { data := #[45] }, .int .i64 60] w fun e w' => e = .returned (.string (bstr d60)) ∧ Below w.heap.size w w' :=
  (Try.strings_Repeat { data := #[45] } 60 w (by omega) (by show 1 * 60 ≤ _; omega)).mono fun e w' ⟨h1, h2⟩ => ⟨by rw [h1]; rfl, h2⟩
def badN : List Nm := [[], [65], [97, 32, 98], [97, 47, 98], [195, 164], [95], x61]
theorem bad_app {k : Nat} (hk : k < 7) : ∃ nm : Nm, badN[k]? = some nm ∧ nm.length ≤ 61 ∧ appendD (stN 0) nm [] = (16, stN 0) := by
  have : k = 0 ∨ k = 1 ∨ k = 2 ∨ k = 3 ∨ k = 4 ∨ k = 5 ∨ k = 6 := by omega
  rcases this with rfl | rfl | rfl | rfl | rfl | rfl | rfl
  all_goals exact ⟨_, rfl, by decide, by decide +kernel⟩
def badV : List Value := badN.map fun n => .string (bstr n)
def Dkr (W w : World) (p : Nat) (D : Dk) (b : Nat) : Prop := ∃ F, DkIs w W.heap.size p D F ∧ Rw F w (some ⟨b, 0, none⟩) 7 7 badV ∧ Below W.heap.size W w
theorem dkr_of {W w : World} {p : Nat} {D : Dk} (h : Dsk W w p D) : Dkr W (w.alloc (.cells badV.toArray 9)) p D w.heap.size := by
  obtain ⟨F, h1, h2⟩ := h
  refine ⟨F, h1.below (below_alloc1 _ _), ⟨sl_cells w badV 9, fun _ a ha => ?_⟩, h2.alloc h2.size _⟩
  cases ha
  exact ⟨by simp, fun hf => by have := (h1.bound _ hf).2; simp at this⟩
theorem Dkr.cell {W w : World} {p : Nat} {D : Dk} {b k : Nat} {nm : Nm} (h : Dkr W w p D b) (hk : badN[k]? = some nm) : w.cell? ⟨b, k, none⟩ = some (.string (bstr nm)) := by
  obtain ⟨F, h1, h2, h3⟩ := h
  obtain ⟨a, k1, k2⟩ := h2.sl.cells k (.string (bstr nm)) (by unfold badV; rw [List.getElem?_map, hk]; rfl)
  cases k1
  rwa [add_plain] at k2
theorem Dkr.app {W w : World} {p b : Nat} {D D' : Dk} {r : Int} (h : Dkr W w p D b) (nm : Nm) (hl : nm.length ≤ maxLen) (hr : appendD D nm [] = (r, D')) :
    Calls Try.prog 33 #[.pointer (some ⟨p, 0, none⟩), .string (bstr nm), .slice none 0 0] w fun x w' => x = .returned (.int .i64 r) ∧ Dkr W w' p D' b := by
  obtain ⟨F, h1, h2, h3⟩ := h
  refine (Append_any h1 nm hl (sl_nilF _) (fun a ha => by cases ha) (by decide)).mono fun x w' ⟨k1, F', k2, k3⟩ => ?_
  rw [hr] at k1 k2
  exact ⟨k1, F', k2, h2.step k3, h3.trans (k3.bel (fun q hq => (h1.bound q hq).1) h3.size)⟩
theorem Dkr.dsk {W w : World} {p b : Nat} {D : Dk} (h : Dkr W w p D b) : Dsk W w p D := by
  obtain ⟨F, h1, h2, h3⟩ := h
  exact ⟨F, h1, h3⟩
theorem nmOf_max (i : Nat) : (nmOf i).length ≤ maxLen := by show 4 ≤ maxLen; unfold maxLen; decide
theorem d60_max : d60.length ≤ maxLen := by unfold maxLen; decide
def sm0 : Dk := ⟨5, -1, false, []⟩
def sm1 : Dk := ⟨5, -1, false, [⟨[97], [49, 50, 51], 0⟩]⟩
def sm2 : Dk := ⟨5, -1, false, [⟨[97], [49, 50, 51], 0⟩]⟩
def sm3 : Dk := ⟨5, -1, false, [⟨[97], [49, 50, 51], 0⟩, ⟨[98], [52, 53], 0⟩]⟩
def sm4 : Dk := ⟨5, -1, false, [⟨[97], [49, 50, 51], 0⟩, ⟨[98], [52, 53], 0⟩]⟩
def sm5 : Dk := ⟨5, -1, false, [⟨[97], [49], 1⟩, ⟨[98], [52, 53], 0⟩]⟩
def sm6 : Dk := ⟨5, -1, false, [⟨[97], [49], 1⟩, ⟨[98], [52, 53, 54, 55], 0⟩]⟩
def sm7 : Dk := ⟨5, -1, false, [⟨[97], [49], 1⟩, ⟨[98], [52, 53, 54, 55], 0⟩]⟩
def sm8 : Dk := ⟨5, 0, false, [⟨[97], [49], 1⟩, ⟨[98], [52, 53, 54, 55], 0⟩]⟩
def sm9 : Dk := ⟨5, 0, false, [⟨[97], [49], 1⟩, ⟨[98], [52, 53, 54, 55], 0⟩]⟩
def sm10 : Dk := ⟨5, 0, false, [⟨[97], [49], 1⟩, ⟨[98], [52, 53, 54, 55], 0⟩]⟩
def sm11 : Dk := ⟨5, -1, true, [⟨[97], [49], 1⟩, ⟨[98], [52, 53, 54, 55], 0⟩]⟩
def sm12 : Dk := ⟨5, -1, true, [⟨[97], [49], 1⟩, ⟨[98], [52, 53, 54, 55], 0⟩]⟩
def sm13 : Dk := ⟨5, -1, false, [⟨[97], [49], 1⟩, ⟨[98], [], 0⟩]⟩
set_option maxRecDepth 100000 in
set_option maxHeartbeats 16000000 in
theorem walk_dnum (W : World) :
    Calls Try.prog 12 #[] W fun e w' => e = .returned (.bool true) ∧ Below W.heap.size W w' := by
  have b0 := below_alloc1 W (.cells #[.int .i64 (-1), .int .i64 16777217] 3)
  have s0 := sl_cells W [.int .i64 (-1), .int .i64 16777217] 3
  have HF : Hid (∀ wx i, Below (W.alloc (.cells #[.int .i64 (-1), .int .i64 16777217] 3)).heap.size (W.alloc (.cells #[.int .i64 (-1), .int .i64 16777217] 3)) wx → i < 2 → ∃ n : Int, wx.cell? ⟨W.heap.size, i, none⟩ = some (.int .i64 n) ∧ (n < 0 ∨ 16777216 < n)) := Lib.hid (by
    intro wx i hb hi
    have key : ∀ j u, [Value.int .i64 (-1), .int .i64 16777217][j]? = some u → wx.cell? ⟨W.heap.size, j, none⟩ = some u := by
      intro j u hj
      obtain ⟨a, h1, h2⟩ := (s0.below hb).cells j u hj
      cases h1
      rwa [add_plain] at h2
    have : i = 0 ∨ i = 1 := by omega
    rcases this with rfl | rfl
    · exact ⟨_, key 0 _ rfl, by omega⟩
    · exact ⟨_, key 1 _ rfl, by omega⟩)
  clear s0
  have kc := fun (w : World) (C : Array Value) (n c : Nat) => Lib.run_convert_bytes_const (P := Try.prog) w 22 5 C n c Try.underlying22 Try.underlying5
  go_enter Try.func12, Try.ntmps12
  go_upto_block 0 with fail
  obtain ⟨W1, hW1⟩ : ∃ W1, W1 = W.alloc (.cells #[.int .i64 (-1), .int .i64 16777217] 3) := ⟨_, rfl⟩
  rw [← hW1] at b0 HF ⊢
  clear hW1
  go_wp2_with fail
  go_loopw [17] (fun s17 wx => ∃ i : Nat, i ≤ 2 ∧ s17 = .int .i64 (i : Int) ∧ Below W1.heap.size W1 wx) (fun iv _ => 2 - (intOf iv).toNat)
  case atStart => exact ⟨0, by omega, rfl, Below.refl _ _⟩
  case round =>
    obtain ⟨i, hi, rfl, bx⟩ := hrel
    rename World => wx
    by_cases hi3 : i < 2
    · obtain ⟨n, hc, hn⟩ := HF.out _ _ bx hi3
      have hin : (0 : Int) ≤ (i : Int) ∧ (i : Int) < 2 := by omega
      have Hn := Lib.hid hn
      clear hn
      go_wp2_with fail
      refine (New_bad n wx Hn.out).mono ?_; rintro e w0 ⟨rfl, c0⟩
      have b1 := bx.trans (c0.mono bx.size)
      clear bx c0 hc
      go_wp2_with fail
      go_roundw
      case rel => exact ⟨i + 1, by omega, by go_num, b1⟩
      case measure => simp [intOf]; omega
    · obtain rfl : i = 2 := by omega
      have bA := b0.trans (bx.mono b0.size)
      clear HF bx b0
      go_wp2_with fail
      refine (new_dsk bA (by decide)).mono ?_; rintro x w0 ⟨p, rfl, h0⟩
      rw [show newD 16777216 = stN 0 from stN_zero] at h0
      clear bA
      go_wp2_with fail
      refine (rep_x _).mono ?_; rintro e w1 ⟨rfl, c1⟩
      have h1 := h0.below c1
      clear h0 c1
      go_upto_block 2 with fail
      have h2 := dkr_of h1
      obtain ⟨bq, hbq⟩ : ∃ bq, bq = w1.heap.size := ⟨_, rfl⟩
      rw [← hbq] at h2 ⊢
      have eC : (w1.alloc (.cells #[.string { data := #[] }, .string { data := #[65] }, .string { data := #[97, 32, 98] }, .string { data := #[97, 47, 98] }, .string { data := #[195, 164] }, .string { data := #[95] }, .string (bstr x61)] 9)) = w1.alloc (.cells badV.toArray 9) := rfl
      rw [eC]
      clear eC h1
      obtain ⟨W2, hW2⟩ : ∃ W2, W2 = w1.alloc (.cells badV.toArray 9) := ⟨_, rfl⟩
      rw [← hW2] at h2 ⊢
      clear hW2 hbq hi3 hi
      go_wp2_with fail
      go_loopw [45] (fun s45 wx => ∃ k : Nat, k ≤ 7 ∧ s45 = .int .i64 (k : Int) ∧ Dkr W wx p (stN 0) bq) (fun iv _ => 7 - (intOf iv).toNat)
      case atStart => exact ⟨0, by omega, rfl, h2⟩
      case round =>
        clear h2
        obtain ⟨k, hk, rfl, h3⟩ := hrel
        rename World => wy
        by_cases hk7 : k < 7
        · obtain ⟨nm, hn1, hn2, hn3⟩ := bad_app hk7
          have hc := h3.cell hn1
          have hin : (0 : Int) ≤ (k : Int) ∧ (k : Int) < 7 := by omega
          have HN := Lib.hid hn3
          clear hn1 hn3
          go_wp2_with fail
          refine (h3.app nm (by unfold maxLen; omega) HN.out).mono ?_; rintro e w0 ⟨rfl, h4⟩
          clear h3 hc HN
          go_wp2_with fail
          go_roundw
          case rel => exact ⟨k + 1, by omega, by go_num, h4⟩
          case measure => simp [intOf]; omega
        · obtain rfl : k = 7 := by omega
          have h5 := h3.dsk
          clear h3 hk hk7
          go_wp2_with fail
          go_loopw [9] (fun s9 wx => ∃ i : Nat, i ≤ 200 ∧ s9 = .int .i64 (i : Int) ∧ Dsk W wx p (stN i)) (fun iv _ => 200 - (intOf iv).toNat)
          case atStart => exact ⟨0, by omega, rfl, h5⟩
          case round =>
            clear h5
            obtain ⟨i, hi, rfl, h6⟩ := hrel
            rename World => wz
            by_cases hi2 : i < 200
            · have hil : (i : Int) < 200 := by omega
              obtain ⟨m, hm⟩ : ∃ m, m = i % 26 := ⟨_, rfl⟩
              obtain ⟨q, hq⟩ : ∃ q, q = i / 26 := ⟨_, rfl⟩
              have HS := Lib.hid (stN_app hi2)
              have HNM := Lib.hid (show nmOf i = [102, 46] ++ [UInt8.ofNat (97 + m), UInt8.ofNat (48 + q)] by rw [hm, hq]; rfl)
              have hm26 : m < 26 := by omega
              have hq8 : q < 8 := by omega
              have hr1 : (i : Int).tmod 26 = (m : Int) := by rw [Int.tmod_eq_emod_of_nonneg (by omega)]; omega
              have hr2 : (i : Int) % 26 = (m : Int) := by omega
              have hr3 : (i : Int).tdiv 26 = (q : Int) := by rw [Int.tdiv_eq_ediv_of_nonneg (by omega)]; omega
              have hr4 : (i : Int) / 26 = (q : Int) := by omega
              have hw1 : IntKind.i64.wrap (m : Int) = (m : Int) := by rw [IntKind.wrap_i64]; omega
              have hw2 : IntKind.i64.wrap (q : Int) = (q : Int) := by rw [IntKind.wrap_i64]; omega
              have hw3 : IntKind.i64.wrap (97 + (m : Int)) = 97 + (m : Int) := by rw [IntKind.wrap_i64]; omega
              have hw4 : IntKind.i64.wrap (48 + (q : Int)) = 48 + (q : Int) := by rw [IntKind.wrap_i64]; omega
              have hb1 : byteV (UInt8.ofNat (97 + m)) = .int .u8 (97 + (m : Int)) := by
                unfold byteV
                rw [UInt8.toNat_ofNat_of_lt' (show 97 + m < 256 by omega)]
                simp
              have hb2 : byteV (UInt8.ofNat (48 + q)) = .int .u8 (48 + (q : Int)) := by
                unfold byteV
                rw [UInt8.toNat_ofNat_of_lt' (show 48 + q < 256 by omega)]
                simp
              have hw5 : IntKind.u8.wrap (97 + (m : Int)) = 97 + (m : Int) := wrap_u8_nat' (97 + m) (by omega) (by omega)
              have hw6 : IntKind.u8.wrap (48 + (q : Int)) = 48 + (q : Int) := wrap_u8_nat' (48 + q) (by omega) (by omega)
              have hbv : (bytesV [UInt8.ofNat (97 + m), UInt8.ofNat (48 + q)]).toArray = #[.int .u8 (97 + (m : Int)), .int .u8 (48 + (q : Int))] := by
                unfold bytesV
                simp only [List.map_cons, List.map_nil, hb1, hb2]
              obtain ⟨l2, hl2⟩ : ∃ l2, l2 = [UInt8.ofNat (97 + m), UInt8.ofNat (48 + q)] := ⟨_, rfl⟩
              rw [← hl2] at hbv
              have hll : l2.length = 2 := by rw [hl2]; rfl
              have hls : (bstr l2).size = 2 := hll
              have hcv : ∀ (w : World), (convert 22 9 (.slice (some ⟨w.heap.size, 0, none⟩) 2 2)).run Try.prog (w.alloc (.cells #[.int .u8 (97 + (m : Int)), .int .u8 (48 + (q : Int))] 5)) = .ok (.string (bstr l2)) (w.alloc (.cells #[.int .u8 (97 + (m : Int)), .int .u8 (48 + (q : Int))] 5)) := by
                intro w
                have := run_str (sl_lit w l2 5)
                rw [hbv, hll] at this
                exact this
              rw [← hl2] at HNM
              have hct : ({ data := #[102, 46] } : ByteArray) ++ bstr l2 = bstr (nmOf i) := by rw [HNM.out]; exact bstr_cat [102, 46] l2
              have h7 : Hid (Dsk W (wz.alloc (.cells #[.int .u8 (97 + (m : Int)), .int .u8 (48 + (q : Int))] 5)) p (stN i)) := Lib.hid (h6.below (below_alloc1 _ _))
              clear hm hq hb1 hb2 hbv hl2 hll HNM h6
              go_wp2_with fail
              refine (append_nil h7.out rfl (nmOf_max i) HS.out).mono ?_; rintro e w0 ⟨rfl, h8⟩
              clear h7 hcv hct HS
              go_wp2_with fail
              refine ⟨⟨_, _, _, _, _, _, _, _, _, _, _, _, _, _, _, _, _, _, _, _, ⟨i + 1, by omega, rfl, h8⟩, rfl⟩, ?measure⟩
              case measure => simp [intOf]; omega
            · obtain rfl : i = 200 := by omega
              clear hi hi2
              go_wp2_with fail
              refine (list_dsk (n := 200) (ns := nmV (stN 200).fs) h6 stN_len rfl).mono ?_; rintro x w11 ⟨AL, cL, rfl, -, -, h11⟩
              clear h6
              go_wp2_with fail
              refine (append_nil h11 (by rfl) (by decide) big1).mono ?_; rintro x w12 ⟨rfl, h12⟩
              clear h11
              go_wp2_with fail
              refine (rep_d _).mono ?_; rintro x wr ⟨rfl, cr⟩
              replace h12 := h12.below cr
              clear cr
              go_wp2_with fail
              refine (rename_dsk (nm := [102, 46, 97, 48]) (tn := d60) h12 (by rfl) rfl d60_max big2).mono ?_; rintro x w13 ⟨rfl, h13⟩
              clear h12
              go_wp2_with fail
              refine (append_nil h13 (by rfl) (by decide) big3).mono ?_; rintro x w14 ⟨rfl, h14⟩
              clear h13
              go_wp2_with fail
              refine (append_nil h14 (by rfl) (by decide) big4).mono ?_; rintro x w15 ⟨rfl, h15⟩
              clear h14
              go_wp2_with fail
              refine (rename_dsk h15 (by rfl) (by rfl) (by decide) big5).mono ?_; rintro x w16 ⟨rfl, h16⟩
              clear h15
              go_wp2_with fail
              refine (rename_dsk h16 (by rfl) (by rfl) (by decide) big6).mono ?_; rintro x w17 ⟨rfl, h17⟩
              clear h16
              go_wp2_with fail
              refine (cut_dsk h17 (by rfl) big7).mono ?_; rintro x w18 ⟨rfl, h18⟩
              clear h17
              go_wp2_with fail
              refine (cut_dsk h18 (by rfl) big8).mono ?_; rintro x w19 ⟨rfl, h19⟩
              clear h18
              go_wp2_with fail
              refine (cut_dsk h19 (by rfl) big9).mono ?_; rintro x w20 ⟨rfl, h20⟩
              clear h19
              go_wp2_with fail
              refine (sync_dsk h20 (by rfl) big10).mono ?_; rintro x w21 ⟨rfl, h21⟩
              clear h20
              go_wp2_with fail
              refine (remove_dsk h21 (by rfl) big11).mono ?_; rintro x w22 ⟨rfl, h22⟩
              clear h21
              have hnew : newD 5 = sm0 := by rfl
              go_wp2_with fail
              refine (new_dsk h22.bel (by decide)).mono ?_; rintro x w23 ⟨ps, rfl, h23⟩
              clear h22
              rw [hnew] at h23
              clear hnew
              go_wp2_with fail
              refine (append_lit (r := 0) (nm := [97]) (bs := [49, 50, 51]) (D' := sm1) h23 (by rfl) (by decide) (by rfl) (by rfl) (by decide) (by kernel_rfl)).mono ?_; rintro x w24 ⟨rfl, h24⟩
              clear h23
              go_wp2_with fail
              refine (append_lit (r := 5) (nm := [98]) (bs := [52, 53, 54]) (D' := sm2) h24 (by rfl) (by decide) (by rfl) (by rfl) (by decide) (by kernel_rfl)).mono ?_; rintro x w25 ⟨rfl, h25⟩
              clear h24
              go_wp2_with fail
              refine (append_lit (r := 0) (nm := [98]) (bs := [52, 53]) (D' := sm3) h25 (by rfl) (by decide) (by rfl) (by rfl) (by decide) (by kernel_rfl)).mono ?_; rintro x w26 ⟨rfl, h26⟩
              clear h25
              go_wp2_with fail
              refine (append_lit (r := 5) (nm := [97]) (bs := [54]) (D' := sm4) h26 (by rfl) (by decide) (by rfl) (by rfl) (by decide) (by kernel_rfl)).mono ?_; rintro x w27 ⟨rfl, h27⟩
              clear h26
              go_wp2_with fail
              refine (cut_dsk (r := 0) (nm := [97]) (D' := sm5) h27 (by rfl) (by kernel_rfl)).mono ?_; rintro x w28 ⟨rfl, h28⟩
              clear h27
              go_wp2_with fail
              refine (append_lit (r := 0) (nm := [98]) (bs := [54, 55]) (D' := sm6) h28 (by rfl) (by decide) (by rfl) (by rfl) (by decide) (by kernel_rfl)).mono ?_; rintro x w29 ⟨rfl, h29⟩
              clear h28
              go_wp2_with fail
              refine (used_dsk (n := 5) h29 (by kernel_rfl)).mono ?_; rintro x w30 ⟨rfl, -, h30⟩
              clear h29
              go_wp2_with fail
              refine (rename_dsk (r := 0) (nm := [98]) (tn := [98]) (D' := sm7) h30 (by rfl) (by rfl) (by decide) (by kernel_rfl)).mono ?_; rintro x w31 ⟨rfl, h31⟩
              clear h30
              go_wp2_with fail
              refine (holds_dsk (nm := [98]) (want := [52, 53, 54, 55]) (b := true) h31 (by rfl) (by rfl) (by kernel_rfl)).mono ?_; rintro x w32 ⟨rfl, -, h32⟩
              clear h31
              go_wp2_with fail
              refine (arm_dsk (D' := sm8) h32 (by decide) (by kernel_rfl)).mono ?_; rintro x w33 ⟨rfl, h33⟩
              clear h32
              go_wp2_with fail
              refine (append_lit (r := 5) (nm := [99]) (bs := [56]) (D' := sm9) h33 (by rfl) (by decide) (by rfl) (by rfl) (by decide) (by kernel_rfl)).mono ?_; rintro x w34 ⟨rfl, h34⟩
              clear h33
              go_wp2_with fail
              refine (sync_dsk (r := 16) (nm := [99]) (D' := sm10) h34 (by rfl) (by kernel_rfl)).mono ?_; rintro x w35 ⟨rfl, h35⟩
              clear h34
              go_wp2_with fail
              refine (down_dsk (b := false) h35 (by rfl)).mono ?_; rintro x wd ⟨rfl, rfl⟩
              go_wp2_with fail
              refine (sync_dsk (r := 15) (nm := [98]) (D' := sm11) h35 (by rfl) (by kernel_rfl)).mono ?_; rintro x w36 ⟨rfl, h36⟩
              clear h35
              go_wp2_with fail
              refine (down_dsk (b := true) h36 (by rfl)).mono ?_; rintro x wd ⟨rfl, rfl⟩
              go_wp2_with fail
              refine (size_dsk (n := 4) h36 (by rfl) (by kernel_rfl)).mono ?_; rintro x w37 ⟨rfl, -, h37⟩
              clear h36
              go_wp2_with fail
              refine (arm_dsk (D' := sm12) h37 (by decide) (by kernel_rfl)).mono ?_; rintro x w38 ⟨rfl, h38⟩
              clear h37
              go_wp2_with fail
              refine (crash_lit1 (ts := [0, 9]) (D' := sm13) h38 (by rfl) (by rfl) (by decide) (by decide) (by kernel_rfl)).mono ?_; rintro x w39 ⟨rfl, h39⟩
              clear h38
              go_wp2_with fail
              refine (holds_dsk (nm := [97]) (want := [49]) (b := true) h39 (by rfl) (by rfl) (by kernel_rfl)).mono ?_; rintro x w40 ⟨rfl, -, h40⟩
              clear h39
              go_wp2_with fail
              refine (holds_dsk (nm := [98]) (want := []) (b := true) h40 (by rfl) (by rfl) (by kernel_rfl)).mono ?_; rintro x w41 ⟨rfl, -, h41⟩
              clear h40
              go_wp2_with fail
              refine (awake2_any _).mono ?_; rintro x we ⟨rfl, ce⟩
              go_wp2_with fail
              go_ret
              exact ⟨rfl, h41.bel.trans (ce.mono h41.bel.size)⟩
end Go.Proofs.Ytemegkapmgcffaa
