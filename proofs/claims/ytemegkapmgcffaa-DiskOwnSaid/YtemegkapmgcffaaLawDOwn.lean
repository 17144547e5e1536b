import Derived.Test.YtemegkapmgcffaaPureSwap
import Derived.Test.YtemegkapmgcffaaDlB
/- DiskOwn: the walk. -/
namespace Go.Proofs.Ytemegkapmgcffaa
open Go.RowKit
set_option linter.unusedSimpArgs false
set_option linter.unusedVariables false

set_option maxHeartbeats 400000 in
theorem copyBytesD (A : Option Addr) (n c : Nat) (l : List UInt8) (w : World) (hs : Sl w 1 A n c (bytesV l)) (hl : n ≤ 140737488351232) :
    Calls Try.prog 38 #[.slice A n c] w fun e w' => e = .returned (.slice (some ⟨w.heap.size, 0, none⟩) n n) ∧
      w'.ownsRow w.heap.size 5 1 (.slice (some ⟨w.heap.size, 0, none⟩) n n) n (bytesV l) ∧ Below w.heap.size w w' := by
  obtain ⟨i0, hi, hz0, hz1, hz2⟩ := info_parts infoByteC
  go_enter Try.func38, Try.ntmps38
  go_wp2_with (first | (at_make; refine wpList_make_own _ rfl _ _ 22 rfl w.heap.size 5 i0 (.int .u8 0) 1 Try.underlying22 hi hz0 hz1 _ _ _ n rfl rfl rfl (by rw [hz2]; omega) (by unfold maxLen; omega) (Nat.le_refl _) ?_; intro w1 hown1 hgrow1) | (at_builtin; refine wpList_append_fits_any _ rfl _ _ 22 rfl w.heap.size 5 i0 1 Try.underlying22 hi hz1 w.heap.size 0 n [] rfl hown1 A n c (bytesV l) rfl hs.len hs.none (fun ad ha j u hj => by obtain ⟨ad', h1, h2⟩ := (hs.below (grownBy_below hgrow1)).cells j u hj; rw [ha] at h1; cases h1; exact h2) (bytesV_one l) (by omega) ?_; intro w2 hown2 hgrow2))
  go_ret
  exact ⟨by simp, by simpa using hown2, (grownBy_below hgrow1).trans ((Below.refl _ _).grown hgrow2 (by have := hgrow1.size; omega) (fun k hk => by cases hk; exact Nat.le_refl _))⟩
theorem bytes_set {l : List UInt8} {j : Nat} (x : UInt8) : (bytesV l).set j (.int .u8 (x.toNat : Int)) = bytesV (l.set j x) := by
  unfold bytesV
  rw [List.map_set]
  rfl
set_option maxRecDepth 100000 in
set_option maxHeartbeats 4000000 in
/-- over: each byte becomes another one -/
theorem over_any {base r n c : Nat} {l : List UInt8} {w : World} (h : Own base 5 1 w (some ⟨r, 0, none⟩) n c (bytesV l)) (hn : n ≤ 1000000) :
    Calls Try.prog 49 #[.slice (some ⟨r, 0, none⟩) n c] w fun x w' => x = .returned (.tuple #[]) ∧ w.grownBy w' (some r) := by
  have H := Lib.hid h
  clear h
  go_enter Try.func49, Try.ntmps49
  go_wp2_with fail
  go_loopw [5] (fun s5 wx => ∃ (j : Nat) (l2 : List UInt8), j ≤ n ∧ s5 = .int .i64 (j : Int) ∧ Hid (Own base 5 1 wx (some ⟨r, 0, none⟩) n c (bytesV l2)) ∧ Hid (w.grownBy wx (some r))) (fun iv _ => n - (intOf iv).toNat)
  case atStart => exact ⟨0, l, by omega, rfl, H, Lib.hid (World.grownBy.refl _ _)⟩
  case round =>
    obtain ⟨j, l2, hj, rfl, HO, HG⟩ := hrel
    by_cases h1 : (j : Int) < (n : Int)
    · have hl2 : l2.length = n := HO.out.sl.blen
      obtain ⟨x, hx⟩ := get_some l2 j (by omega)
      have k0 := World.ownsRow.cellAt HO.out j (by omega)
      have hxv : (bytesV l2)[j]? = some (.int .u8 (x.toNat : Int)) := by unfold bytesV; rw [List.getElem?_map, hx]; rfl
      rw [hxv] at k0
      have y0 := World.ownsRow.frozenAt HO.out j
      obtain ⟨z, hz⟩ : ∃ z : UInt8, (z.toNat : Int) = ((x.toNat : Int) + 1) % 256 := ⟨UInt8.ofNat (x.toNat + 1), by rw [UInt8.toNat_ofNat']; omega⟩
      have hw : IntKind.wrap .u8 ((x.toNat : Int) + 1) = (z.toNat : Int) := by rw [hz]; simp [IntKind.wrap, IntKind.bits, IntKind.signed]
      have st := World.ownsRow.stored HO.out j (.int .u8 (z.toNat : Int))
      rw [bytes_set] at st
      have HO2 := Lib.hid st.1
      have HG2 := Lib.hid (HG.out.trans st.2)
      have hin : (0 : Int) ≤ (j : Int) ∧ (j : Int) < (n : Int) := by omega
      have hxb : (x.toNat : Int) ≤ 255 := by have := x.toNat_lt; omega
      obtain ⟨xn, hxn⟩ : ∃ xn : Nat, xn = x.toNat := ⟨_, rfl⟩
      obtain ⟨zn, hzn⟩ : ∃ zn : Nat, zn = z.toNat := ⟨_, rfl⟩
      rw [← hxn] at k0 hw hxb
      rw [← hzn] at hw HG2 HO2
      clear st HO HG hx hxv hxn hzn hz hl2
      go_wp2_with fail
      go_roundw
      case rel => exact ⟨j + 1, _, by omega, by go_num, HO2, HG2⟩
      case measure => simp [intOf]; omega
    · obtain rfl : n = j := by omega
      go_wp2_with fail
      go_end0
      exact ⟨rfl, HG.out⟩
abbrev nF : Nm := [102]
def ow (l : List Fl) : Dk := ⟨4096, -1, false, l⟩
theorem ow_new (b : List UInt8) (h : b.length ≤ 200) : appendD (newD 4096) nF b = (0, ow [⟨nF, b, 0⟩]) := by
  have h1 : namedF nF = true := by decide
  have h2 : ¬ ((4096 : Int) < (b.length : Int)) := by omega
  simp [appendD, h1, newD, thereF, posF, usedF, deedD, appF, insF, ow, h2]
theorem ow_app (a b : List UInt8) (s : Nat) (h : a.length + b.length ≤ 4096) : appendD (ow [⟨nF, a, s⟩]) nF b = (0, ow [⟨nF, a ++ b, s⟩]) := by
  have h1 : namedF nF = true := by decide
  have h2 : ¬ ((4096 : Int) < (a.length : Int) + (b.length : Int)) := by omega
  simp [appendD, h1, newD, thereF, posF, usedF, deedD, appF, insF, ow, h2, bl_irrefl, List.findIdx_cons]
theorem ow_cut (b : List UInt8) (k : Nat) (h : k ≤ b.length) : cutD (ow [⟨nF, b, 0⟩]) nF (k : Int) = (0, ow [⟨nF, b.take k, k⟩]) := by
  have h2 : ¬ ((k : Int) < 0 ∨ (b.length : Int) < (k : Int)) := by omega
  simp only [cutD, ofD, ow, thereF, posF, bl_irrefl, List.findIdx_cons, deedD]
  simp
  omega
theorem ow_read (b : List UInt8) (s : Nat) : readD (ow [⟨nF, b, s⟩]) nF = (b, 0) ∧ (lookF (ow [⟨nF, b, s⟩]).fs nF).safe = s := by
  simp [readD, ow, thereF, posF, bl_irrefl, lookF, List.findIdx_cons]
theorem DkIs.grown {w w' : World} {base p r : Nat} {D : Dk} {F : Nat → Prop} (h : DkIs w base p D F) (hg : w.grownBy w' (some r)) (hr : ∀ q, F q → q ≠ r) : DkIs w' base p D F := by
  obtain ⟨R, c, es, h⟩ := h
  exact ⟨R, c, es, h.kept hg.size (fun q hq => hg.block q (h.bound q hq).2 (fun e => hr q hq (Option.some.inj e)))⟩
set_option maxRecDepth 100000 in
set_option maxHeartbeats 8000000 in
theorem own_any {W : World} {A0 : Option Addr} {n0 c0 : Nat} {b : List UInt8} {at_ : Int} (s0 : Sl W 1 A0 n0 c0 (bytesV b)) (hn : n0 ≤ 9223372036854775807) (ha : 0 ≤ at_ ∧ at_ ≤ 255) :
    Calls Try.prog 11 #[.slice A0 n0 c0, .int .u8 at_] W fun x w' => x = .returned (.bool true) ∧ Below W.heap.size W w' := by
  by_cases hbig : n0 = 0 ∨ 200 < n0
  · go_enter Try.func11, Try.ntmps11
    rcases hbig with hb0 | hb0
    · subst hb0
      go_wp2_with fail
      refine (awake2_any _).mono ?_; rintro x w1 ⟨rfl, hb⟩
      go_wp2_with fail
      go_ret
      exact ⟨rfl, hb⟩
    · have hz : ((n0 : Int) == 0) = false := by simp; omega
      go_wp2_with fail
      refine (awake2_any _).mono ?_; rintro x w1 ⟨rfl, hb⟩
      go_wp2_with fail
      go_ret
      exact ⟨rfl, hb⟩
  · obtain ⟨h1, h2⟩ : 1 ≤ n0 ∧ n0 ≤ 200 := by omega
    clear hbig
    obtain ⟨a, rfl⟩ := Int.eq_ofNat_of_zero_le ha.1
    obtain ⟨k, hk⟩ : ∃ k, k = a % (n0 + 1) := ⟨_, rfl⟩
    have hkl : k ≤ n0 := by have := Nat.mod_lt a (show 0 < n0 + 1 by omega); omega
    have Hk := Lib.hid hk
    have hbl := s0.blen
    have hkI : (a : Int) % ((n0 : Int) + 1) = (k : Int) := by rw [hk]; simp
    have hz : ((n0 : Int) == 0) = false := by simp; omega
    have S0 := Lib.hid s0
    have O0 := Lib.hid (fun (h : b ≠ []) => sl_old s0 (by simpa [bytesV] using h))
    have Hbl := Lib.hid hbl
    clear hk hbl s0
    obtain ⟨i0, hi, hz0, hz1, hz2⟩ := info_parts infoByteC
    go_enter Try.func11, Try.ntmps11
    go_wp2_with fail
    refine (new_dsk (room := 4096) (Below.refl _ _) (by decide)).mono ?_; rintro x w0 ⟨p, rfl, d0⟩
    obtain ⟨F0, d0, b0⟩ := d0
    have D0 := Lib.hid d0
    have B0 := Lib.hid b0
    clear d0 b0
    go_wp2_with fail
    refine (copyBytesD A0 n0 c0 b w0 (S0.out.below B0.out) (by omega)).mono ?_; rintro x w1 ⟨rfl, o1, hb1⟩
    obtain ⟨r, hr⟩ : ∃ r, r = w0.heap.size := ⟨_, rfl⟩
    rw [← hr] at o1
    rw [← hr]
    have Hr := Lib.hid hr
    have O1 := Lib.hid (show Own r 5 1 w1 (some ⟨r, 0, none⟩) n0 n0 (bytesV b) from o1)
    have D1 := Lib.hid (D0.out.below hb1)
    have B1 := Lib.hid (B0.out.trans (hb1.mono B0.out.size))
    have hF0 : ∀ q, F0 q → q ≠ r := fun q hq => by have := (D0.out.bound q hq).2; have := Hr.out; omega
    have hba : W.heap.size ≤ r := by rw [hr]; exact B0.out.size
    clear hr o1 hb1 D0 B0
    obtain ⟨A', hrun, hsb, hsl⟩ := cut_from (P := Try.prog) 22 5 .i64 Try.underlying22 hi (some ⟨r, 0, none⟩) n0 n0 k (k : Int) rfl hkl
    obtain ⟨A2, hrun2, hsb2, hsl2⟩ := cut_from (P := Try.prog) 22 5 .i64 Try.underlying22 hi A0 n0 c0 k (k : Int) rfl hkl
    have Hsl := Lib.hid hsl
    have Hsl2 := Lib.hid hsl2
    have Hsb := Lib.hid hsb
    have Hsb2 := Lib.hid hsb2
    have hto := fun W => cut_to (P := Try.prog) 22 5 .i64 Try.underlying22 hi (some ⟨r, 0, none⟩) n0 n0 k (k : Int) rfl hkl W
    have Hz1 := Lib.hid hz1
    clear hsl hsl2 hsb hsb2 hz0 hz1 hz2 hi
    go_wp2_with fail
    refine (Append_any D1.out nF (by decide) (sl_takeF O1.out.sl hkl) (fun a ha _ hf => by cases ha; exact hF0 _ hf rfl) (by omega)).mono ?_
    rintro x w2 ⟨rfl, F1, d2, c2⟩
    rw [ow_new (b.take k) (by rw [List.length_take]; have := Hbl.out; omega)] at d2
    rw [ow_new (b.take k) (by rw [List.length_take]; have := Hbl.out; omega)]
    have D2 := Lib.hid d2
    have hF1 : ∀ q, F1 q → q ≠ r := fun q hq e => by
      subst e
      rcases c2.new _ hq with h5 | h5
      · exact hF0 _ h5 rfl
      · have := (World.ownsRow.lt O1.out q rfl).2; omega
    have O2 := Lib.hid (own_same O1.out (w' := w2) (fun a ha => by cases ha; exact c2.block _ (World.ownsRow.lt O1.out r rfl).2 (fun hf => hF0 _ hf rfl)))
    have B2 := Lib.hid (B1.out.trans (c2.bel (fun q hq => (D1.out.bound q hq).1) B1.out.size))
    clear c2 d2 O1 D1 B1
    go_wp2_with fail
    have s2 := Hsl.out w2 _ (by rw [Hz1.out]; exact O2.out.sl)
    rw [Hz1.out, Nat.mul_one, show (bytesV b).drop k = bytesV (b.drop k) by unfold bytesV; rw [List.map_drop]] at s2
    refine (Append_any D2.out nF (by decide) s2 (fun a ha _ hf => by obtain ⟨a', h5, h6⟩ := Hsb.out a ha; cases h5; exact hF1 _ hf h6.symm) (by omega)).mono ?_
    rintro x w3 ⟨rfl, F2, d3, c3⟩
    have hap : appendD (ow [⟨nF, b.take k, 0⟩]) nF (b.drop k) = (0, ow [⟨nF, b, 0⟩]) := by
      rw [ow_app _ _ _ (by have := Hbl.out; simp only [List.length_take, List.length_drop]; omega), List.take_append_drop]
    rw [hap] at d3
    rw [hap]
    have D3 := Lib.hid d3
    have hF2 : ∀ q, F2 q → q ≠ r := fun q hq e => by
      subst e
      rcases c3.new _ hq with h5 | h5
      · exact hF1 _ h5 rfl
      · have := (World.ownsRow.lt O2.out q rfl).2; omega
    have O3 := Lib.hid (own_same O2.out (w' := w3) (fun a ha => by cases ha; exact c3.block _ (World.ownsRow.lt O2.out r rfl).2 (fun hf => hF1 _ hf rfl)))
    have B3 := Lib.hid (B2.out.trans (c3.bel (fun q hq => (D2.out.bound q hq).1) B2.out.size))
    clear c3 d3 O2 D2 B2 s2 hap hF0 hF1
    go_wp2_with fail
    refine (over_any O3.out (by omega)).mono ?_
    rintro x w4 ⟨rfl, g4⟩
    have D4 := Lib.hid (show Dsk W w4 p (ow [⟨nF, b, 0⟩]) from ⟨F2, D3.out.grown g4 hF2, B3.out.grown g4 B3.out.size (fun q hq => by cases hq; exact hba)⟩)
    clear g4 O3 D3 B3 hF2
    go_wp2_with fail
    refine (read_dsk (nm := nF) (bs := b) (r := 0) D4.out (by rfl) (ow_read b 0).1).mono ?_
    rintro x w5 ⟨A5, c5, rfl, o5, hb5, d5⟩
    have k1 := run_str o5.sl
    have k2 := run_str (S0.out.below d5.bel)
    have O5 := Lib.hid o5
    have Hb5 := Lib.hid hb5
    clear o5 hb5 d5
    have hbn : b.length = n0 := Hbl.out
    obtain ⟨g, hA5, -⟩ : ∃ g, A5 = some ⟨g, 0, none⟩ ∧ True := by
      rcases O5.out.2 with ⟨h5, h6⟩ | ⟨g, cap, cur, h5, _⟩
      · omega
      · simp only [Value.slice.injEq] at h5
        exact ⟨g, h5.1, trivial⟩
    subst hA5
    clear hbn
    go_wp2_with fail
    refine (over_any O5.out (by have := Hbl.out; omega)).mono ?_
    rintro x w6 ⟨rfl, g6⟩
    have D6 := Lib.hid (D4.out.below (Hb5.out.grown g6 Hb5.out.size (fun q hq => by cases hq; exact (own_lt O5.out _ rfl).1)))
    clear g6 O5 Hb5 D4 k1 k2
    go_wp2_with fail
    refine (cut_dsk (nm := nF) (r := 0) D6.out (by rfl) (ow_cut b k (by rw [Hbl.out]; exact hkl))).mono ?_
    rintro x w7 ⟨rfl, d7⟩
    have D7 := Lib.hid d7
    clear d7 D6
    go_wp2_with fail
    have s7 := Hsl2.out w7 _ (by rw [Hz1.out]; exact S0.out.below D7.out.bel)
    rw [Hz1.out, Nat.mul_one, show (bytesV b).drop k = bytesV (b.drop k) by unfold bytesV; rw [List.map_drop]] at s7
    have hap : appendD (ow [⟨nF, b.take k, k⟩]) nF (b.drop k) = (0, ow [⟨nF, b, k⟩]) := by
      rw [ow_app _ _ _ (by have := Hbl.out; simp only [List.length_take, List.length_drop]; omega), List.take_append_drop]
    refine (append_dsk (nm := nF) (r := 0) D7.out (Below.refl _ _) (by rfl) (by decide) s7 (fun hne a ha => by
      obtain ⟨a', h5, h6⟩ := Hsb2.out a ha
      refine .inl ?_
      rw [← h6]
      exact O0.out (fun h => hne (by rw [h]; simp)) a' h5) (by omega) hap).mono ?_
    rintro x w8 ⟨rfl, d8⟩
    have D8 := Lib.hid d8
    clear d8 D7 s7 hap
    go_wp2_with fail
    refine (read_dsk (nm := nF) (bs := b) (r := 0) D8.out (by rfl) (ow_read b k).1).mono ?_
    rintro x w9 ⟨A9, c9, rfl, o9, hb9, d9⟩
    have k1 := run_str o9.sl
    have k2 := run_str (S0.out.below d9.bel)
    have D9 := Lib.hid d9
    clear o9 hb9 d9 D8
    go_wp2_with fail
    refine (synced_dsk (nm := nF) D9.out (by rfl) (ow_read b k).2).mono ?_
    rintro x wa ⟨rfl, hbz, da⟩
    have DA := Lib.hid da
    clear da hbz k1 k2 D9
    go_wp2_with fail
    refine (awake2_any _).mono ?_; rintro x wl ⟨rfl, hbl⟩
    go_wp2_with fail
    go_ret
    exact ⟨rfl, DA.out.bel.trans (hbl.mono DA.out.bel.size)⟩
end Go.Proofs.Ytemegkapmgcffaa
