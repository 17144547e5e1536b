import Derived.Test.YtemegkapmgcffaaDkY
import Derived.Test.YtemegkapmgcffaaPureSwap
/- DiskSwap: the walk. -/
namespace Go.Proofs.Ytemegkapmgcffaa
open Go.RowKit
set_option linter.unusedSimpArgs false
set_option linter.unusedVariables false

theorem own_str {base : Nat} {w : World} {A : Option Addr} {n c : Nat} {l : List UInt8} (h : Own base 5 1 w A n c (bytesV l)) : (convert 22 9 (.slice A n c)).run Try.prog w = .ok (.string (bstr l)) w := run_str h.sl
set_option maxRecDepth 100000 in
set_option maxHeartbeats 8000000 in
theorem swap_any {W : World} {A0 A1 K T : Option Addr} {n0 c0 n1 c1 nk ck nt ct : Nat} {e n : List UInt8} {ks ts : List Int} {fu : Int} (s0 : Sl W 1 A0 n0 c0 (bytesV e)) (s1 : Sl W 1 A1 n1 c1 (bytesV n)) (hf : 0 ≤ fu ∧ fu ≤ 255) (sk : Sl W 1 K nk ck (intsV ks)) (st : Sl W 1 T nt ct (intsV ts)) (hks : I64 ks) (hts : I64 ts) (h0 : n0 ≤ 9223372036854775807) (h1 : n1 ≤ 9223372036854775807) (hk : nk ≤ 9223372036854775807) (ht : nt ≤ 9223372036854775807) :
    Calls Try.prog 7 #[.slice A0 n0 c0, .slice A1 n1 c1, .int .u8 fu, .slice K nk ck, .slice T nt ct] W fun x w' => x = .returned (.bool true) ∧ Below W.heap.size W w' := by
  by_cases hbig : 200 < n0 ∨ 200 < n1 ∨ 9 < nk ∨ 9 < nt
  · go_enter Try.func7, Try.ntmps7
    by_cases b0 : 200 < n0
    all_goals by_cases b1 : 200 < n1
    all_goals by_cases b2 : 9 < nk
    all_goals by_cases b3 : 9 < nt
    all_goals first | (exfalso; omega) | skip
    all_goals
      go_wp2_with fail
      refine (awake2_any _).mono ?_; rintro x w1 ⟨rfl, hb⟩
      go_wp2_with fail
      go_ret
      exact ⟨rfl, hb⟩
  · obtain ⟨b0, b1, b2, b3⟩ : n0 ≤ 200 ∧ n1 ≤ 200 ∧ nk ≤ 9 ∧ nt ≤ 9 := by omega
    have hel : e.length ≤ 200 := by rw [s0.blen]; exact b0
    have hnl : n.length ≤ 200 := by rw [s1.blen]; exact b1
    have hne := s0.blen
    have hnn := s1.blen
    clear hbig
    obtain ⟨f, hfe⟩ : ∃ f, f = fu % 6 := ⟨_, rfl⟩
    have hfb : 0 ≤ f ∧ f ≤ 5 := by omega
    have Hfe := Lib.hid hfe
    have S0 := Lib.hid s0
    have S1 := Lib.hid s1
    have SK := Lib.hid sk
    have ST := Lib.hid st
    have IK := Lib.hid (fun x hx => (hks x hx).2)
    have IT := Lib.hid (fun x hx => (hts x hx).2)
    have O0 := Lib.hid (fun (h : e ≠ []) => sl_old s0 (by simpa [bytesV] using h))
    have O1 := Lib.hid (fun (h : n ≠ []) => sl_old s1 (by simpa [bytesV] using h))
    have OK := Lib.hid (fun (h : ks ≠ []) => sl_old sk (by simpa [intsV] using h))
    have OT := Lib.hid (fun (h : ts ≠ []) => sl_old st (by simpa [intsV] using h))
    clear hfe s0 s1 sk st hks hts
    have Hel := Lib.hid hel
    have Hnl := Lib.hid hnl
    have Hne := Lib.hid hne
    have Hnn := Lib.hid hnn
    clear hel hnl hne hnn
    have hw5 : fu % 6 = f := Hfe.out.symm
    go_enter Try.func7, Try.ntmps7
    go_wp2_with fail
    refine (new_dsk (Below.refl _ _) (by decide)).mono ?_; rintro x w0 ⟨p, rfl, d0⟩
    go_wp2_with fail
    refine (append_dsk (r := 0) (nm := nRoot) (bs := e) d0 (Below.refl _ _) (by rfl) (by decide) (S0.out.below d0.bel) (fun h a ha => .inl (O0.out h a ha)) (by omega) (sw_new e Hel.out)).mono ?_; rintro x w1 ⟨rfl, d1⟩
    clear d0
    go_wp2_with fail
    refine (sync_dsk (r := 0) (nm := nRoot) d1 (by rfl) (sw_sync e)).mono ?_; rintro x w2 ⟨rfl, d2⟩
    clear d1
    go_wp2_with fail
    refine (arm_dsk (n := f) d2 (by omega) (sw_arm e f hfb.1)).mono ?_; rintro x w3 ⟨rfl, d3⟩
    clear d2
    have hcs : f = 0 ∨ f = 1 ∨ f = 2 ∨ 3 ≤ f := by omega
    rcases hcs with hc | hc | hc | hc
    · subst hc
      go_wp2_with fail
      refine (append_dsk (r := 15) (nm := nNext) (bs := n) d3 (Below.refl _ _) (by rfl) (by decide) (S1.out.below d3.bel) (fun h a ha => .inl (O1.out h a ha)) (by omega) (sw_ap0 e n Hel.out Hnl.out)).mono ?_; rintro x w4 ⟨rfl, d4⟩
      clear d3
      go_wp2_with fail
      refine (sync_dsk (r := 15) (nm := nNext) d4 (by rfl) (sync_dark _ _ rfl)).mono ?_; rintro x w5 ⟨rfl, d5⟩
      clear d4
      go_wp2_with fail
      refine (rename_dsk (r := 15) (nm := nNext) (tn := nRoot) d5 (by rfl) (by rfl) (by decide) (rename_dark _ _ _ rfl)).mono ?_; rintro x w6 ⟨rfl, d6⟩
      clear d5
      go_wp2_with fail
      refine (crash_dsk (ks := ks) (ts := ts) d6 (Below.refl _ _) (SK.out.below d6.bel) (ST.out.below d6.bel) (fun h a ha => .inl (OK.out h a ha)) (fun h a ha => .inl (OT.out h a ha)) (by omega) (by omega) IK.out IT.out (sw_crash1 e _ _ ks ts)).mono ?_; rintro x w7 ⟨rfl, d7⟩
      clear d6
      go_wp2_with fail
      refine (read_dsk (r := 0) (nm := nRoot) (bs := e) d7 (by rfl) (sw_read1 e).1).mono ?_; rintro x w8 ⟨A8, c8, rfl, o8, -, d8⟩
      clear d7
      have k1 := own_str o8
      clear o8
      have k2 := run_str (S0.out.below d8.bel)
      go_wp2_with fail
      refine (read_dsk (r := 16) (nm := nNext) (bs := []) d8 (by rfl) (sw_read1 e).2).mono ?_; rintro x w9 ⟨A9, c9, rfl, o9, -, d9⟩
      clear d8
      go_wp2_with fail
      refine (list_dsk (n := 1) d9 (by rfl) rfl).mono ?_; rintro x w10 ⟨A10, c10, rfl, -, -, d10⟩
      clear d9
      go_wp2_with fail
      refine (awake2_any _).mono ?_; rintro x wl ⟨rfl, hbl⟩
      go_wp2_with fail
      go_ret
      exact ⟨rfl, d10.bel.trans (hbl.mono d10.bel.size)⟩
    · subst hc
      go_wp2_with fail
      refine (append_dsk (r := 0) (nm := nNext) (bs := n) d3 (Below.refl _ _) (by rfl) (by decide) (S1.out.below d3.bel) (fun h a ha => .inl (O1.out h a ha)) (by omega) (sw_ap e n 1 (by omega) Hel.out Hnl.out)).mono ?_; rintro x w4 ⟨rfl, d4⟩
      clear d3
      go_wp2_with fail
      refine (sync_dsk (r := 15) (nm := nNext) d4 (by rfl) (sw_sync0 e n)).mono ?_; rintro x w5 ⟨rfl, d5⟩
      clear d4
      go_wp2_with fail
      refine (rename_dsk (r := 15) (nm := nNext) (tn := nRoot) d5 (by rfl) (by rfl) (by decide) (rename_dark _ _ _ rfl)).mono ?_; rintro x w6 ⟨rfl, d6⟩
      clear d5
      go_wp2_with fail
      refine (crash_dsk (ks := ks) (ts := ts) d6 (Below.refl _ _) (SK.out.below d6.bel) (ST.out.below d6.bel) (fun h a ha => .inl (OK.out h a ha)) (fun h a ha => .inl (OT.out h a ha)) (by omega) (by omega) IK.out IT.out (sw_crash2 e n 0 _ _ ks ts)).mono ?_; rintro x w7 ⟨rfl, d7⟩
      clear d6
      obtain ⟨b, sf, hlf, hle⟩ : ∃ b sf, leftF ⟨nNext, n, 0⟩ (toldI ks 0) (toldI ts 0) = ⟨nNext, b, sf⟩ ∧ b.length ≤ n.length := ⟨_, _, rfl, (left_le ⟨nNext, n, 0⟩ (toldI ks 0) (toldI ts 0) (Nat.zero_le _)).1⟩
      rw [hlf] at d7
      clear hlf
      go_wp2_with fail
      refine (read_dsk (r := 0) (nm := nRoot) (bs := e) d7 (by rfl) (sw_read2 e b _).1).mono ?_; rintro x w8 ⟨A8, c8, rfl, o8, -, d8⟩
      clear d7
      have k1 := own_str o8
      clear o8
      have k2 := run_str (S0.out.below d8.bel)
      go_wp2_with fail
      refine (read_dsk (r := 0) (nm := nNext) (bs := b) d8 (by rfl) (sw_read2 e b _).2).mono ?_; rintro x w9 ⟨A9, c9, rfl, o9, -, d9⟩
      clear d8
      have hle2 : decide (b.length ≤ n1) = true := by rw [Hnn.out] at hle; simpa using hle
      have hle3 : decide ((b.length : Int) ≤ (n1 : Int)) = true := by simpa using hle2
      clear o9
      go_wp2_with fail
      refine (awake2_any _).mono ?_; rintro x wl ⟨rfl, hbl⟩
      go_wp2_with fail
      go_ret
      exact ⟨rfl, d9.bel.trans (hbl.mono d9.bel.size)⟩
    · subst hc
      go_wp2_with fail
      refine (append_dsk (r := 0) (nm := nNext) (bs := n) d3 (Below.refl _ _) (by rfl) (by decide) (S1.out.below d3.bel) (fun h a ha => .inl (O1.out h a ha)) (by omega) (sw_ap e n 2 (by omega) Hel.out Hnl.out)).mono ?_; rintro x w4 ⟨rfl, d4⟩
      clear d3
      go_wp2_with fail
      refine (sync_dsk (r := 0) (nm := nNext) d4 (by rfl) (sw_sync1 e n (2 - 1) (by omega))).mono ?_; rintro x w5 ⟨rfl, d5⟩
      clear d4
      go_wp2_with fail
      refine (rename_dsk (r := 15) (nm := nNext) (tn := nRoot) d5 (by rfl) (by rfl) (by decide) (sw_rename0 e n)).mono ?_; rintro x w6 ⟨rfl, d6⟩
      clear d5
      go_wp2_with fail
      refine (crash_dsk (ks := ks) (ts := ts) d6 (Below.refl _ _) (SK.out.below d6.bel) (ST.out.below d6.bel) (fun h a ha => .inl (OK.out h a ha)) (fun h a ha => .inl (OT.out h a ha)) (by omega) (by omega) IK.out IT.out (sw_crash2 e n n.length _ _ ks ts)).mono ?_; rintro x w7 ⟨rfl, d7⟩
      clear d6
      rw [left_whole] at d7
      go_wp2_with fail
      refine (read_dsk (r := 0) (nm := nRoot) (bs := e) d7 (by rfl) (sw_read2 e n _).1).mono ?_; rintro x w8 ⟨A8, c8, rfl, o8, -, d8⟩
      clear d7
      have k1 := own_str o8
      clear o8
      have k2 := run_str (S0.out.below d8.bel)
      go_wp2_with fail
      refine (read_dsk (r := 0) (nm := nNext) (bs := n) d8 (by rfl) (sw_read2 e n _).2).mono ?_; rintro x w9 ⟨A9, c9, rfl, o9, -, d9⟩
      clear d8
      have k4 := own_str o9
      have k5 := run_str (S1.out.below d9.bel)
      have hle2 : n.length ≤ n1 := by rw [Hnn.out]; exact Nat.le_refl _
      clear o9
      go_wp2_with fail
      refine (awake2_any _).mono ?_; rintro x wl ⟨rfl, hbl⟩
      go_wp2_with fail
      go_ret
      exact ⟨rfl, d9.bel.trans (hbl.mono d9.bel.size)⟩
    · go_wp2_with fail
      refine (append_dsk (r := 0) (nm := nNext) (bs := n) d3 (Below.refl _ _) (by rfl) (by decide) (S1.out.below d3.bel) (fun h a ha => .inl (O1.out h a ha)) (by omega) (sw_ap e n f (by omega) Hel.out Hnl.out)).mono ?_; rintro x w4 ⟨rfl, d4⟩
      clear d3
      go_wp2_with fail
      refine (sync_dsk (r := 0) (nm := nNext) d4 (by rfl) (sw_sync1 e n (f - 1) (by omega))).mono ?_; rintro x w5 ⟨rfl, d5⟩
      clear d4
      go_wp2_with fail
      refine (rename_dsk (r := 0) (nm := nNext) (tn := nRoot) d5 (by rfl) (by rfl) (by decide) (sw_rename1 e n (f - 1 - 1) (by omega))).mono ?_; rintro x w6 ⟨rfl, d6⟩
      clear d5
      go_wp2_with fail
      refine (crash_dsk (ks := ks) (ts := ts) d6 (Below.refl _ _) (SK.out.below d6.bel) (ST.out.below d6.bel) (fun h a ha => .inl (OK.out h a ha)) (fun h a ha => .inl (OT.out h a ha)) (by omega) (by omega) IK.out IT.out (sw_crash1 n _ _ ks ts)).mono ?_; rintro x w7 ⟨rfl, d7⟩
      clear d6
      go_wp2_with fail
      refine (read_dsk (r := 0) (nm := nRoot) (bs := n) d7 (by rfl) (sw_read1 n).1).mono ?_; rintro x w8 ⟨A8, c8, rfl, o8, -, d8⟩
      clear d7
      have k1 := own_str o8
      clear o8
      have k2 := run_str (S1.out.below d8.bel)
      have g0 : decide (0 < f) = true := by simp; omega
      have g1 : decide (1 < f) = true := by simp; omega
      have g2 : decide (2 < f) = true := by simp; omega
      go_wp2_with fail
      refine (read_dsk (r := 16) (nm := nNext) (bs := []) d8 (by rfl) (sw_read1 n).2).mono ?_; rintro x w9 ⟨A9, c9, rfl, o9, -, d9⟩
      clear d8
      go_wp2_with fail
      refine (list_dsk (n := 1) d9 (by rfl) rfl).mono ?_; rintro x w10 ⟨A10, c10, rfl, -, -, d10⟩
      clear d9
      go_wp2_with fail
      refine (awake2_any _).mono ?_; rintro x wl ⟨rfl, hbl⟩
      go_wp2_with fail
      go_ret
      exact ⟨rfl, d10.bel.trans (hbl.mono d10.bel.size)⟩
end Go.Proofs.Ytemegkapmgcffaa
