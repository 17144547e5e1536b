import Derived.Test.YtphjmbhlokkdiaaFairJ
namespace Go.Proofs.Ytphjmbhlokkdiaa
open Go.RowKit Go.Maps Go.WideShapes Go.WideMaps
set_option linter.unusedSimpArgs false
set_option linter.unusedVariables false

theorem picks61 (w : World) : Calls Try.prog 68 #[.int .i64 6, .int .i64 1] w fun e w' => e = .returned (.string { data := #[97, 97, 98, 97, 97, 98] }) ∧ Below w.heap.size w w' :=
  picks_any 6 1 [97, 97, 98, 97, 97, 98] w (by decide) (by decide) (by decide) (by decide +kernel)
theorem picks62 (w : World) : Calls Try.prog 68 #[.int .i64 6, .int .i64 2] w fun e w' => e = .returned (.string { data := #[97, 97, 98, 97, 97, 98] }) ∧ Below w.heap.size w w' :=
  picks_any 6 2 [97, 97, 98, 97, 97, 98] w (by decide) (by decide) (by decide) (by decide +kernel)
set_option maxRecDepth 100000 in
set_option maxHeartbeats 2000000 in
theorem awake17_any (w : World) : Calls Try.prog 23 #[] w fun e w' => e = .returned (.bool true) ∧ Below w.heap.size w w' := by
  go_enter Try.func23, Try.ntmps23
  go_wp2_with fail
  refine (picks61 _).mono ?_; rintro x w1 ⟨rfl, b1⟩
  go_wp2_with fail
  refine (picks62 _).mono ?_; rintro x w2 ⟨rfl, b2⟩
  go_wp2_with fail
  go_ret
  exact ⟨rfl, b1.trans (b2.mono b1.size)⟩

set_option maxRecDepth 100000 in
set_option maxHeartbeats 2000000 in
theorem great_any (f : Fr) (A : Option Addr) (m d : Nat) (w : World) (hs : Sl w 3 A m d (flatT f.ts)) (hm : m ≤ 9223372036854775807) :
    Calls Try.prog 24 #[frV f.Q A m d f.At f.H] w fun e w' => ∃ z, e = .returned (.bool z) ∧ (z = false → m ≤ 30) ∧ Below w.heap.size w w' := by
  obtain ⟨Q, ts, At, H⟩ := f
  simp only at hs ⊢
  have hl := slT_len hs
  have b1 := below_alloc1 w (.cells (frC Q A m d At H).toArray 36)
  have o1 : Own w.heap.size 36 1 (w.alloc (.cells (frC Q A m d At H).toArray 36)) (some ⟨w.heap.size, 0, none⟩) 4 4 (frC Q A m d At H) := new_own w (frC Q A m d At H) 36 4 rfl (by unfold maxLen; omega)
  simp only [frC] at b1 o1
  unfold frV
  go_enter Try.func24, Try.ntmps24
  by_cases h1 : 30 < m
  · go_wp2_with fail
    go_ret
    exact ⟨true, rfl, (fun h => by cases h), b1⟩
  go_upto_region 3 with fail
  generalize w.alloc (.cells #[.int .i64 Q, .slice A m d, .int .i64 At, .bool H] 36) = w1 at *
  have y1 := World.ownsRow.cellAt o1 1 (by omega)
  simp only [List.getElem?_cons_succ, List.getElem?_cons_zero] at y1
  have hs1 := hs.below b1
  have hd : decide ((30 : Int) < (m : Int)) = false := by simp; omega
  try simp only [hd]
  clear hd
  go_wp2_with fail
  go_loopw [11] (fun s wx => ∃ k : Nat, k ≤ m ∧ s = .int .i64 (k : Int) ∧ wx = w1) (fun s _ => m - (intOf s).toNat)
  case atStart => exact ⟨0, by omega, rfl, rfl⟩
  case round =>
    obtain ⟨k, hk, rfl, rfl⟩ := hrel
    by_cases g1 : (k : Int) < (m : Int)
    · obtain ⟨q, hq⟩ := get_some ts k (by omega)
      obtain ⟨ad, rfl⟩ := slT_addr hs1 hq
      obtain ⟨z0, z1, z2⟩ := slT_three hs1 hq
      have hin : (0 : Int) ≤ (k : Int) ∧ (k : Int) < (m : Int) := by omega
      have hse : (bstr q.N).size = q.N.length := rfl
      clear z1 z2 hq hl
      by_cases h5 : 3000 < q.N.length
      · go_wp2_with fail
        go_ret
        exact ⟨true, rfl, (fun h => by cases h), b1⟩
      · go_wp2_with fail
        go_roundw
        case rel => exact ⟨k + 1, by omega, by go_num, by first | trivial | rfl⟩
        case measure => simp [intOf]; omega
    · obtain rfl : k = m := by omega
      go_wp2_with fail
      go_ret
      exact .inl ⟨rfl, by omega, b1⟩

/-- there is one that is picked -/
theorem pick_ex {hs : List Hd} (hC : ∀ x, x ∈ hs → 1 ≤ x.C ∧ x.C ≤ 1000) {s : List UInt8} (hs1 : costOf hs s ≠ 0) (j : Nat) : ∀ (M : Nat) (f : Fr) (q : Tn), Gd f → f.H = false → f.ts[j]? = some q → q.N = s → (1000 - q.L).toNat * f.ts.length + (j + f.ts.length - f.At.toNat) % f.ts.length ≤ M → ∃ n fr, pickN n f hs = some fr := by
  intro M
  induction M using Nat.strongRecOn with
  | ind M ih =>
    intro f q hg hH hq hqs hM
    obtain ⟨k, hk, hkl⟩ := hg.at_
    obtain ⟨p, hp⟩ := get_some f.ts k hkl
    have hcb := costOf_bound hC p.N
    have hgd := serveF_gd hg hk hp (costOf hs p.N) hcb
    obtain ⟨ha, hQ⟩ := serveF_at f k p (costOf hs p.N)
    have hl := serveF_len f k p (costOf hs p.N)
    have hjl := (List.getElem?_eq_some_iff.1 hq).1
    obtain ⟨a1, a2, a3, a4, a5⟩ := okT_iff.1 (hg.ok k p hp)
    have hm := mul_bound a2 a3 hg.q1
    cases hz : (serveF f k p (costOf hs p.N)).2 with
    | true =>
      refine ⟨1, (serveF f k p (costOf hs p.N)).1, ?_⟩
      rw [pickN, hk, Int.toNat_natCast, hp]
      simp only [hz, if_true]
    | false =>
      have step : ∀ n fr, pickN n (advF (serveF f k p (costOf hs p.N)).1) hs = some fr → ∃ n fr, pickN n f hs = some fr := by
        intro n fr h
        refine ⟨n + 1, fr, ?_⟩
        rw [pickN, hk, Int.toNat_natCast, hp]
        simp only [hz, Bool.false_eq_true, if_false]
        exact h
      have hadv : (advF (serveF f k p (costOf hs p.N)).1).At.toNat = (k + 1) % f.ts.length := by
        show (((serveF f k p (costOf hs p.N)).1.At + 1).tmod ((serveF f k p (costOf hs p.N)).1.ts.length : Int)).toNat = _
        rw [ha, hl, hk]
        have : ((k : Int) + 1) = ((k + 1 : Nat) : Int) := by omega
        rw [this, ← Int.ofNat_tmod, Int.toNat_natCast]
      rw [hk, Int.toNat_natCast] at hM
      have hlen : (advF (serveF f k p (costOf hs p.N)).1).ts.length = f.ts.length := hl
      by_cases hkj : k = j
      · subst hkj
        rw [hp] at hq
        obtain rfl := Option.some.inj hq
        subst hqs
        have hc1 : 1 ≤ costOf hs p.N := by omega
        have hz0 := hz
        simp only [serveF, hH, if_neg hs1, Bool.false_eq_true, if_false] at hz
        by_cases hlt : p.L + p.W * f.Q < costOf hs p.N
        · have hq2 : (advF (serveF f k p (costOf hs p.N)).1).ts[k]? = some ⟨p.N, p.W, p.L + p.W * f.Q⟩ := by
            show (serveF f k p (costOf hs p.N)).1.ts[k]? = _
            simp only [serveF, hH, if_neg hs1, Bool.false_eq_true, if_false, if_pos hlt]
            rw [List.getElem?_set, if_pos rfl, if_pos hkl]
          have hdec : (1000 - (p.L + p.W * f.Q)).toNat * (advF (serveF f k p (costOf hs p.N)).1).ts.length + (k + (advF (serveF f k p (costOf hs p.N)).1).ts.length - (advF (serveF f k p (costOf hs p.N)).1).At.toNat) % (advF (serveF f k p (costOf hs p.N)).1).ts.length < M := by
            rw [hlen, hadv]
            refine Nat.lt_of_lt_of_le ?_ hM
            obtain ⟨N, hN⟩ : ∃ N, N = f.ts.length := ⟨_, rfl⟩
            rw [← hN] at hkl ⊢
            have e1 : (1000 - (p.L + p.W * f.Q)).toNat + 1 ≤ (1000 - p.L).toNat := by omega
            have e2 : ((1000 - (p.L + p.W * f.Q)).toNat + 1) * N ≤ (1000 - p.L).toNat * N := Nat.mul_le_mul_right _ e1
            rw [Nat.add_mul, Nat.one_mul] at e2
            have e3 : (k + N - (k + 1) % N) % N < N := Nat.mod_lt _ (by omega)
            omega
          obtain ⟨n, fr, h⟩ := ih _ hdec _ ⟨p.N, p.W, p.L + p.W * f.Q⟩ (hgd.2 hz0) rfl hq2 rfl (Nat.le_refl _)
          exact step n fr h
        · rw [if_neg hlt] at hz; simp at hz
      · have hq2 : (advF (serveF f k p (costOf hs p.N)).1).ts[j]? = some q := by
          obtain ⟨x, hx, _⟩ := serveF_left hg hk hp (costOf hs p.N) hcb
          show (serveF f k p (costOf hs p.N)).1.ts[j]? = _
          rw [hx, List.getElem?_set, if_neg hkj, hq]
        have hdec : (1000 - q.L).toNat * (advF (serveF f k p (costOf hs p.N)).1).ts.length + (j + (advF (serveF f k p (costOf hs p.N)).1).ts.length - (advF (serveF f k p (costOf hs p.N)).1).At.toNat) % (advF (serveF f k p (costOf hs p.N)).1).ts.length < M := by
          rw [hlen, hadv]
          refine Nat.lt_of_lt_of_le ?_ hM
          obtain ⟨N, hN⟩ : ∃ N, N = f.ts.length := ⟨_, rfl⟩
          rw [← hN] at hkl hjl ⊢
          have : (j + N - (k + 1) % N) % N < (j + N - k) % N := by
            by_cases h1 : k + 1 = N
            · rw [h1, Nat.mod_self, Nat.sub_zero, Nat.add_mod_right, Nat.mod_eq_of_lt hjl]
              rw [show j + N - k = j + 1 by omega, Nat.mod_eq_of_lt (by omega)]
              omega
            · rw [Nat.mod_eq_of_lt (show k + 1 < N by omega)]
              by_cases h2 : k < j
              · rw [show j + N - (k + 1) = (j - (k + 1)) + N by omega, Nat.add_mod_right, Nat.mod_eq_of_lt (by omega)]
                rw [show j + N - k = (j - k) + N by omega, Nat.add_mod_right, Nat.mod_eq_of_lt (by omega)]
                omega
              · rw [Nat.mod_eq_of_lt (show j + N - (k + 1) < N by omega), Nat.mod_eq_of_lt (show j + N - k < N by omega)]
                omega
          omega
        obtain ⟨n, fr, h⟩ := ih _ hdec _ q (hgd.2 hz) rfl hq2 hqs (Nat.le_refl _)
        exact step n fr h
/-- .. whatever the turn -/
theorem pick_ex' {hs : List Hd} (hC : ∀ x, x ∈ hs → 1 ≤ x.C ∧ x.C ≤ 1000) {f : Fr} (hg : Gd f) {s : List UInt8} (hs1 : costOf hs s ≠ 0) (hn : s ∈ f.ts.map Tn.N) : ∃ n fr, pickN n f hs = some fr := by
  obtain ⟨k, hk, hkl⟩ := hg.at_
  obtain ⟨p, hp⟩ := get_some f.ts k hkl
  have hcb := costOf_bound hC p.N
  have hgd := serveF_gd hg hk hp (costOf hs p.N) hcb
  have hnm := serveF_names f k p (costOf hs p.N) hp
  cases hz : (serveF f k p (costOf hs p.N)).2 with
  | true =>
    refine ⟨1, (serveF f k p (costOf hs p.N)).1, ?_⟩
    rw [pickN, hk, Int.toNat_natCast, hp]
    simp only [hz, if_true]
  | false =>
    rw [← hnm] at hn
    obtain ⟨q, hq, he⟩ := List.mem_map.1 hn
    obtain ⟨j, hj, rfl⟩ := List.getElem_of_mem hq
    obtain ⟨n, fr, h⟩ := pick_ex hC hs1 j _ _ _ (hgd.2 hz) rfl (List.getElem?_eq_getElem hj) he (Nat.le_refl _)
    refine ⟨n + 1, fr, ?_⟩
    rw [pickN, hk, Int.toNat_natCast, hp]
    simp only [hz, Bool.false_eq_true, if_false]
    exact h
end Go.Proofs.Ytphjmbhlokkdiaa
