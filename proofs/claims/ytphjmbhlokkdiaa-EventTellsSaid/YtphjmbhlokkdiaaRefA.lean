import Derived.Test.YtphjmbhlokkdiaaPureRef
import Derived.Test.YtphjmbhlokkdiaaLawRow
import Derived.Test.YtphjmbhlokkdiaaByteWalksE
import Derived.Deep.CutBlock
import Derived.Deep.DeepCutAuto
namespace Go.Proofs.Ytphjmbhlokkdiaa
open Go.RowKit
set_option linter.unusedSimpArgs false
set_option linter.unusedVariables false

theorem uvVal_part (l : List UInt8) (m k : Nat) (x : UInt8) (hk : k ≤ m) (hx : l[k]? = some x) : uvVal ((l.take (m + 1)).drop k) = 128 * uvVal ((l.take (m + 1)).drop (k + 1)) + x.toNat % 128 := by
  have hlt := (List.getElem?_eq_some_iff.1 hx).1
  have hxe := (List.getElem?_eq_some_iff.1 hx).2
  have h1 : k < (l.take (m + 1)).length := by rw [List.length_take]; omega
  rw [List.drop_eq_getElem_cons h1, List.getElem_take, hxe, uvVal]
  omega

set_option maxRecDepth 100000 in
set_option maxHeartbeats 1000000 in
theorem refGetUint_any (A : Option Addr) (n c : Nat) (l : List UInt8) (at_ : Int) (w : World) (hs : Sl w 1 A n c (bytesV l)) (hl : n ≤ 140737488351232) :
    Calls Try.prog 76 #[.slice A n c, .int .i64 at_] w fun e w' => e = .returned (.tuple #[.int .u64 ((gu l at_).1 : Nat), .int .i64 ((gu l at_).2.1 : Nat), .int .i64 ((gu l at_).2.2 : Nat)]) ∧ w = w' := by
  have Hl := Lib.hid hs.blen
  by_cases h0 : at_ < 0
  · rw [gu_out l at_ (.inl h0)]
    go_enter Try.func76, Try.ntmps76
    go_wp2
    go_ret3
    exact ⟨rfl, rfl⟩
  · by_cases h1 : (n : Int) < at_
    · rw [gu_out l at_ (.inr (by rw [Hl.out]; exact h1))]
      go_enter Try.func76, Try.ntmps76
      go_wp2
      go_ret3
      exact ⟨rfl, rfl⟩
    · obtain ⟨a, rfl⟩ : ∃ k : Nat, at_ = (k : Int) := ⟨at_.toNat, by omega⟩
      obtain ⟨g, hge⟩ : ∃ g, g = gu l a := ⟨_, rfl⟩
      rw [← hge]
      have Hg := Lib.hid hge
      have han : a ≤ n := by omega
      have Hb := Lib.hid (fun k x => @Sl.byteAt w A n c l hs k x)
      clear hge
      go_enter Try.func76, Try.ntmps76
      go_upto_block 0 with fail
      go_cut [7] (fun s wx => ∃ m : Nat, m ≤ 10 ∧ a + m ≤ n ∧ s = .int .i64 (m : Int) ∧ Hid (∀ j, j < m → ∃ x, l[a + j]? = some x ∧ 127 < x.toNat) ∧ Hid (m = 10 ∨ a + m = n ∨ ∃ x, l[a + m]? = some x ∧ x.toNat ≤ 127) ∧ wx = w)
      case first =>
        go_wp2_with fail
        go_loopw [7] (fun s wx => ∃ m : Nat, m ≤ 10 ∧ a + m ≤ n ∧ s = .int .i64 (m : Int) ∧ Hid (∀ j, j < m → ∃ x, l[a + j]? = some x ∧ 127 < x.toNat) ∧ wx = w) (fun s _ => 10 - (intOf s).toNat)
        case atStart => exact ⟨0, by omega, by omega, rfl, Lib.hid (fun j h => by omega), rfl⟩
        case round =>
          obtain ⟨m, hm, ham, rfl, Hm, rfl⟩ := hrel
          have hw1 : IntKind.i64.wrap ((a : Int) + (m : Int)) = (a : Int) + (m : Int) := IntWalk.i64_in _ (by omega)
          by_cases c1 : a + m < n
          · by_cases c2 : m < 10
            · obtain ⟨x, hx⟩ := get_some l (a + m) (by rw [Hl.out]; exact c1)
              obtain ⟨ad, rfl, hc⟩ := Hb.out _ _ hx
              have hxl := x.toNat_lt
              have hnn : ((a : Int) + (m : Int)).toNat = a + m := by omega
              have hin : (0 : Int) ≤ (a : Int) + (m : Int) ∧ (a : Int) + (m : Int) < (n : Int) := by omega
              have Hx := Lib.hid hx
              clear hx
              by_cases c3 : 127 < x.toNat
              · go_wp2_with fail
                go_roundw
                case rel =>
                  refine ⟨m + 1, by omega, by omega, by go_num, Lib.hid (fun j hj => ?_), by first | trivial | rfl⟩
                  by_cases hjm : j = m
                  · subst hjm; exact ⟨x, Hx.out, c3⟩
                  · exact Hm.out j (by omega)
                case measure => simp [intOf]; omega
              · go_wp2_with fail
                go_meet
                exact ⟨m, hm, ham, rfl, Hm, Lib.hid (.inr (.inr ⟨x, Hx.out, by omega⟩)), rfl⟩
            · go_wp2_with fail
              go_meet
              exact ⟨m, hm, ham, rfl, Hm, Lib.hid (.inl (by omega)), rfl⟩
          · go_wp2_with fail
            go_meet
            exact ⟨m, hm, ham, rfl, Hm, Lib.hid (.inr (.inl (by omega))), rfl⟩
      case rest =>
        obtain ⟨m, hm, ham, rfl, Hm, Hend, rfl⟩ := hcut
        have hw1 : IntKind.i64.wrap ((a : Int) + (m : Int)) = (a : Int) + (m : Int) := IntWalk.i64_in _ (by omega)
        by_cases c1 : m = 10
        · subst c1
          have hg : g = (0, 0, 10) := by rw [Hg.out]; exact gu_ten l a (by rw [Hl.out]; exact han) Hm.out
          have Hg2 := Lib.hid hg
          clear hs Hg hg
          go_wp2_with fail
          go_ret3
          exact ⟨by rw [Hg2.out]; rfl, rfl⟩
        · have c1b : ((m : Int) == 10) = false := by simp; omega
          have c1c : m < 10 := by omega
          by_cases c2 : a + m = n
          · have c2b : ((a : Int) + (m : Int) == (n : Int)) = true := by simp; omega
            have hg : g = (0, 0, 11) := by rw [Hg.out]; exact gu_short l a m (by omega) Hm.out (by rw [Hl.out]; omega)
            have Hg2 := Lib.hid hg
            clear hs Hg c2 hg
            go_wp2_with fail
            go_ret3
            exact ⟨by rw [Hg2.out]; rfl, rfl⟩
          · have c2b : ((a : Int) + (m : Int) == (n : Int)) = false := by simp; omega
            obtain ⟨x, hx, hx2⟩ := (Hend.out.resolve_left c1).resolve_left c2
            obtain ⟨ad, rfl, hc⟩ := Hb.out _ _ hx
            obtain ⟨p, hp⟩ : ∃ p, p = a + m := ⟨_, rfl⟩
            rw [← hp] at hc
            have Hp := Lib.hid hp
            have hnn : ((a : Int) + (m : Int)).toNat = p := by omega
            have hin : (0 : Int) ≤ (a : Int) + (m : Int) ∧ (a : Int) + (m : Int) < (n : Int) := by omega
            have Hx := Lib.hid hx
            clear hx hp
            by_cases c4 : (m = 9 ∧ 1 < x.toNat) ∨ (0 < m ∧ x.toNat = 0)
            · have hg : g = (0, 0, 10) := by rw [Hg.out]; exact gu_bad l a m x (by rw [Hl.out]; exact han) (by omega) Hm.out Hx.out c4
              have Hg2 := Lib.hid hg
              clear hs Hg hg Hend
              by_cases c9 : m = 9
              · subst c9
                have hw9 : IntKind.i64.wrap ((a : Int) + 9) = (a : Int) + 9 := IntWalk.i64_in _ (by omega)
                have hn9 : ((a : Int) + 9).toNat = p := by have := Hp.out; omega
                have hi9 : (0 : Int) ≤ (a : Int) + 9 ∧ (a : Int) + 9 < (n : Int) := by omega
                clear hw1 hnn hin
                by_cases c5 : 1 < x.toNat
                · go_wp2_with fail
                  go_ret3
                  exact ⟨by rw [Hg2.out]; rfl, rfl⟩
                · have c6 : ((x.toNat : Int) == 0) = true := by simp; omega
                  go_wp2_with fail
                  go_ret3
                  exact ⟨by rw [Hg2.out]; rfl, rfl⟩
              · have c9b : ((m : Int) == 9) = false := by simp; omega
                have c6 : ((x.toNat : Int) == 0) = true := by simp; omega
                have c7 : 0 < m := by omega
                clear c4 c9
                go_wp2_with fail
                go_ret3
                exact ⟨by rw [Hg2.out]; rfl, rfl⟩
            · have hg : g = (uvVal ((l.drop a).take (m + 1)), a + m + 1, 0) := by rw [Hg.out]; exact gu_good l a m x (by rw [Hl.out]; exact han) (by omega) Hm.out Hx.out hx2 c4
              have hV : uvVal ((l.drop a).take (m + 1)) < 18446744073709551616 := by have := gu_lt l a; rw [← Hg.out, hg] at this; exact this
              obtain ⟨V, hVd⟩ : ∃ V : Nat → Nat, V = fun k => uvVal (((l.drop a).take (m + 1)).drop k) := ⟨_, rfl⟩
              have hg2 : g = (V 0, a + m + 1, 0) := by rw [hg, hVd]; simp only [List.drop_zero]
              have hVs : ∀ k, k ≤ m → ∃ y : UInt8, l[a + k]? = some y ∧ V k = 128 * V (k + 1) + y.toNat % 128 := by
                intro k hk
                obtain ⟨y, hy⟩ := get_some l (a + k) (by rw [Hl.out]; omega)
                refine ⟨y, hy, ?_⟩
                rw [hVd]
                exact uvVal_part (l.drop a) m k y hk (by rw [List.getElem?_drop]; exact hy)
              have hVe : V (m + 1) = 0 := by rw [hVd]; simp only; rw [List.drop_eq_nil_of_le (by rw [List.length_take]; omega)]; rfl
              have hVl : ∀ k, V k < 18446744073709551616 := by intro k; rw [hVd]; exact Nat.lt_of_le_of_lt (uvVal_drop _ _) hV
              have Hg2 := Lib.hid hg2
              have HVs := Lib.hid hVs
              have HVe := Lib.hid hVe
              have HVl := Lib.hid hVl
              have hm9 : m ≤ 9 := by omega
              clear hg hg2 hVs hVe hVl hV hVd Hg Hend Hm
              have tri : (((m : Int) == 9) = true ∧ ((a : Int) + 9).toNat = p ∧ (0 : Int) ≤ (a : Int) + 9 ∧ (a : Int) + 9 < (n : Int) ∧ x.toNat ≤ 1 ∧ ((x.toNat : Int) == 0) = false ∧ 0 < m) ∨ (((m : Int) == 9) = false ∧ ((x.toNat : Int) == 0) = false ∧ 0 < m) ∨ (((m : Int) == 9) = false ∧ m ≤ 0) := by
                have h2 := Hp.out
                by_cases c9 : m = 9
                · left
                  refine ⟨by simp; omega, by omega, by omega, by omega, by omega, by simp; omega, by omega⟩
                · right
                  by_cases c0 : m = 0
                  · right; exact ⟨by simp; omega, by omega⟩
                  · left; exact ⟨by simp; omega, by simp; omega, by omega⟩
              clear c4
              rcases tri with ⟨t1, t2, t3, t4, t5, t6, t7⟩ | ⟨t1, t2, t3⟩ | ⟨t1, t2⟩
              all_goals go_wp2_with fail
              all_goals (
                go_loopw [8, 9] (fun v iv wx => ∃ (k : Nat) (j : Int), k ≤ m + 1 ∧ j + 1 = (k : Int) ∧ iv = .int .i64 j ∧ v = .int .u64 ((V k : Nat) : Int) ∧ wx = wc) (fun _ iv _ => (intOf iv + 1).toNat)
                (case atStart => exact ⟨m + 1, (m : Int), by omega, by omega, rfl, by rw [HVe.out]; rfl, rfl⟩)
                (case round =>
                  obtain ⟨k, j, hk, hj, rfl, rfl, rfl⟩ := hrel
                  by_cases hk0 : k = 0
                  · subst hk0
                    obtain rfl : j = -1 := by omega
                    go_wp2_with fail
                    go_ret3
                    exact ⟨by rw [Hg2.out]; rfl, rfl⟩
                  · obtain ⟨i, rfl⟩ : ∃ i, k = i + 1 := ⟨k - 1, by omega⟩
                    obtain rfl : j = (i : Int) := by omega
                    obtain ⟨y, hy, hVy⟩ := HVs.out i (by omega)
                    obtain ⟨ad', had', hcy⟩ := Hb.out _ _ hy
                    cases had'
                    obtain ⟨v1, hv1⟩ : ∃ v, v = V (i + 1) := ⟨_, rfl⟩
                    obtain ⟨d, hd⟩ : ∃ d, d = y.toNat % 128 := ⟨_, rfl⟩
                    have hyl := y.toNat_lt
                    have hdl : d < 128 := by omega
                    have hym : (y.toNat : Int).tmod 128 = (d : Int) := by rw [hd, Int.tmod_eq_emod_of_nonneg (by omega)]; simp
                    rw [← hv1, ← hd] at hVy
                    rw [← hv1]
                    have hlt := HVl.out i
                    rw [hVy] at hlt
                    have hnn2 : ((a : Int) + (i : Int)).toNat = a + i := by omega
                    have hin2 : (0 : Int) ≤ (a : Int) + (i : Int) ∧ (a : Int) + (i : Int) < (n : Int) := by omega
                    have HVy := Lib.hid hVy
                    clear hy hd hVy hv1 hj
                    go_wp2_with fail
                    go_roundw
                    (case rel => exact ⟨i, (i : Int) - 1, by omega, by omega, by go_num, by rw [HVy.out]; first | rfl | go_num, by first | trivial | rfl⟩)
                    (case measure => simp [intOf])))
end Go.Proofs.Ytphjmbhlokkdiaa
