import Derived.Test.YtphjmbhlokkdiaaEvF
import Derived.Test.YtphjmbhlokkdiaaPureTorn
import Derived.Test.YtphjmbhlokkdiaaLawForms
import Derived.Test.YtphjmbhlokkdiaaPureRef
/- Plain: an event's bytes are read as that event; cut, they are too short; what is read, written again, is those bytes. -/
namespace Go.Proofs.Ytphjmbhlokkdiaa
set_option linter.unusedSimpArgs false
set_option linter.unusedVariables false

theorem rdN_bad (l : List UInt8) (a b : Nat) (h : b ≠ 0) : rdN l a b = (0, a, b) := by unfold rdN; rw [if_pos h]
theorem rdI_bad (l : List UInt8) (a b : Nat) (h : b ≠ 0) : rdI l a b = (0, a, b) := by unfold rdI; rw [if_pos h]
theorem rdS_bad (l : List UInt8) (a b : Nat) (h : b ≠ 0) : rdS l a b = ([], a, b) := by unfold rdS; rw [if_pos h]
theorem rdN_of {l : List UInt8} {a n q : Nat} (h : gu l (a : Int) = (n, q, 0)) (hn : n ≤ 4611686018427387904) : rdN l a 0 = (n, q, 0) := by
  unfold rdN
  rw [h, if_neg (by simp), if_neg (by simp), if_neg (by simp only; omega)]
theorem rdI_of {l : List UInt8} {a n q : Nat} (h : gu l (a : Int) = (n, q, 0)) : rdI l a 0 = (unzz n, q, 0) := by
  unfold rdI
  rw [gi_of_gu, h, if_neg (by simp), if_neg (by simp)]
theorem rdN_err {l : List UInt8} {a x : Nat} (h : (gu l (a : Int)).2.2 = x) (hx : x ≠ 0) : (rdN l a 0).2.2 = x := by
  unfold rdN
  rw [if_neg (by simp), if_pos (by rw [h]; exact hx)]
  exact h
theorem rdI_err {l : List UInt8} {a x : Nat} (h : (gu l (a : Int)).2.2 = x) (hx : x ≠ 0) : (rdI l a 0).2.2 = x := by
  unfold rdI
  rw [gi_of_gu, if_neg (by simp), if_pos (by simp only; rw [h]; exact hx)]
  exact h

theorem rdN_uv (pre rest : List UInt8) (n a : Nat) (hn : n ≤ 4611686018427387904) (ha : a = pre.length) : rdN (pre ++ (uv n ++ rest)) a 0 = (n, a + (uv n).length, 0) := by
  subst ha
  exact rdN_of (gu_uv pre rest n _ (by omega) rfl) hn
theorem rdI_uv (pre rest : List UInt8) (i : Int) (a : Nat) (h1 : -9223372036854775808 ≤ i) (h2 : i ≤ 9223372036854775807) (ha : a = pre.length) : rdI (pre ++ (uv (zz i) ++ rest)) a 0 = (i, a + (uv (zz i)).length, 0) := by
  subst ha
  rw [rdI_of (gu_uv pre rest (zz i) _ (zz_lt i h1 h2) rfl), unzz_zz]
theorem rdI_uv' (pre rest : List UInt8) (i : Int) (a z : Nat) (h1 : -9223372036854775808 ≤ i) (h2 : i ≤ 9223372036854775807) (hz : z = zz i) (ha : a = pre.length) : rdI (pre ++ (uv z ++ rest)) a 0 = (i, a + (uv z).length, 0) := by
  subst hz
  exact rdI_uv pre rest i a h1 h2 ha
theorem rdS_uv (pre rest S : List UInt8) (a : Nat) (hS : S.length ≤ 40) (ha : a = pre.length) : rdS (pre ++ (uv S.length ++ (S ++ rest))) a 0 = (S, a + ((uv S.length).length + S.length), 0) := by
  subst ha
  have hg := gu_uv pre (S ++ rest) S.length (pre.length : Int) (by omega) rfl
  have hb : gb (pre ++ (uv S.length ++ (S ++ rest))) (pre.length : Int) 40 = (S, pre.length + ((uv S.length).length + S.length), 0) := by
    unfold gb
    rw [hg, if_neg (by simp), if_neg (by simp only; omega), if_neg (by simp only [List.length_append]; omega)]
    simp only [Prod.mk.injEq, and_true]
    refine ⟨?_, by omega⟩
    rw [show pre.length + (uv S.length).length = (pre ++ uv S.length).length by simp, ← List.append_assoc, List.drop_left, List.take_left]
  unfold rdS
  rw [hb, if_neg (by simp), if_neg (by simp), if_neg (by simp)]

/-- the seven parts of an event's bytes -/
theorem evB_parts (e : Ev) : evB e = uv e.K ++ (uv e.At.toNat ++ (uv e.N.toNat ++ (uv e.P.toNat ++ (uv (zz e.A) ++ (uv e.B.toNat ++ (uv e.S.length ++ e.S)))))) := by
  unfold evB Ev.nums
  simp
theorem evB_pos (e : Ev) : 0 < (evB e).length := by rw [evB_parts, List.length_append]; have := uv_pos e.K; omega

theorem rdE_ev (pre rest : List UInt8) (e : Ev) (hok : e.ok) (hr : rightB e = true) : rdE (pre ++ (evB e ++ rest)) pre.length = (e, pre.length + (evB e).length, 0) := by
  obtain ⟨p1, p2, p3, p4, p5, p6, p7, p8, p9⟩ := right_pos hr
  have hK := hok.K
  have hA := hok.A
  obtain ⟨l, hl⟩ : ∃ l, l = pre ++ (evB e ++ rest) := ⟨_, rfl⟩
  have hp := evB_parts e
  obtain ⟨K, At, N, P, A, B, S⟩ := e
  obtain ⟨a, rfl⟩ : ∃ k : Nat, At = (k : Int) := ⟨At.toNat, by simp only at p1; omega⟩
  obtain ⟨n, rfl⟩ : ∃ k : Nat, N = (k : Int) := ⟨N.toNat, by simp only at p3; omega⟩
  obtain ⟨p, rfl⟩ : ∃ k : Nat, P = (k : Int) := ⟨P.toNat, by simp only at p5; omega⟩
  obtain ⟨b, rfl⟩ : ∃ k : Nat, B = (k : Int) := ⟨B.toNat, by simp only at p7; omega⟩
  simp only [Int.toNat_natCast] at *
  have r1 : rdN l pre.length 0 = (K, pre.length + (uv K).length, 0) := by
    rw [hl, hp, List.append_assoc]
    exact rdN_uv pre _ K _ (by omega) rfl
  have r2 : rdN l (pre.length + (uv K).length) 0 = (a, pre.length + (uv K).length + (uv a).length, 0) := by
    have e1 : l = (pre ++ uv K) ++ (uv a ++ (uv n ++ (uv p ++ (uv (zz A) ++ (uv b ++ (uv S.length ++ (S ++ rest))))))) := by rw [hl, hp]; simp
    rw [e1]
    exact rdN_uv _ _ a _ (by omega) (by simp)
  have r3 : rdN l (pre.length + (uv K).length + (uv a).length) 0 = (n, pre.length + (uv K).length + (uv a).length + (uv n).length, 0) := by
    have e1 : l = (pre ++ (uv K ++ uv a)) ++ (uv n ++ (uv p ++ (uv (zz A) ++ (uv b ++ (uv S.length ++ (S ++ rest)))))) := by rw [hl, hp]; simp
    rw [e1]
    exact rdN_uv _ _ n _ (by omega) (by simp; omega)
  have r4 : rdN l (pre.length + (uv K).length + (uv a).length + (uv n).length) 0 = (p, pre.length + (uv K).length + (uv a).length + (uv n).length + (uv p).length, 0) := by
    have e1 : l = (pre ++ (uv K ++ (uv a ++ uv n))) ++ (uv p ++ (uv (zz A) ++ (uv b ++ (uv S.length ++ (S ++ rest))))) := by rw [hl, hp]; simp
    rw [e1]
    exact rdN_uv _ _ p _ (by omega) (by simp; omega)
  have r5 : rdI l (pre.length + (uv K).length + (uv a).length + (uv n).length + (uv p).length) 0 = (A, pre.length + (uv K).length + (uv a).length + (uv n).length + (uv p).length + (uv (zz A)).length, 0) := by
    have e1 : l = (pre ++ (uv K ++ (uv a ++ (uv n ++ uv p)))) ++ (uv (zz A) ++ (uv b ++ (uv S.length ++ (S ++ rest)))) := by rw [hl, hp]; simp
    rw [e1]
    exact rdI_uv _ _ A _ hA.1 hA.2 (by simp; omega)
  have r6 : rdN l (pre.length + (uv K).length + (uv a).length + (uv n).length + (uv p).length + (uv (zz A)).length) 0 = (b, pre.length + (uv K).length + (uv a).length + (uv n).length + (uv p).length + (uv (zz A)).length + (uv b).length, 0) := by
    have e1 : l = (pre ++ (uv K ++ (uv a ++ (uv n ++ (uv p ++ uv (zz A)))))) ++ (uv b ++ (uv S.length ++ (S ++ rest))) := by rw [hl, hp]; simp
    rw [e1]
    exact rdN_uv _ _ b _ (by omega) (by simp; omega)
  have r7 : rdS l (pre.length + (uv K).length + (uv a).length + (uv n).length + (uv p).length + (uv (zz A)).length + (uv b).length) 0 = (S, pre.length + (uv K).length + (uv a).length + (uv n).length + (uv p).length + (uv (zz A)).length + (uv b).length + ((uv S.length).length + S.length), 0) := by
    have e1 : l = (pre ++ (uv K ++ (uv a ++ (uv n ++ (uv p ++ (uv (zz A) ++ uv b)))))) ++ (uv S.length ++ (S ++ rest)) := by rw [hl, hp]; simp
    rw [e1]
    exact rdS_uv _ _ S _ p9 (by simp; omega)
  rw [← hl]
  unfold rdE
  simp only [r1, r2, r3, r4, r5, r6, r7]
  rw [if_neg (by simp), if_neg (by omega), if_neg (by rw [hr]; simp)]
  simp only [Prod.mk.injEq, true_and, and_true]
  rw [hp]
  simp
  omega

theorem uv_cont (n : Nat) : ∀ j, j + 1 < (uv n).length → ∃ x, (uv n)[j]? = some x ∧ 127 < x.toNat := by
  induction n using Nat.strongRecOn with
  | ind n ih =>
    intro j hj
    by_cases h : n < 128
    · rw [uv_len_small n h] at hj; omega
    · rw [uv_big n (by omega)] at hj ⊢
      rw [List.length_cons] at hj
      cases j with
      | zero => exact ⟨_, rfl, by rw [UInt8.toNat_ofNat']; omega⟩
      | succ j =>
        rw [List.getElem?_cons_succ]
        exact ih (n / 128) (by omega) j (by omega)
theorem take_in (pre u rest : List UInt8) (k : Nat) (h : pre.length + u.length ≤ k) : (pre ++ (u ++ rest)).take k = pre ++ (u ++ rest.take (k - pre.length - u.length)) := by
  rw [List.take_append, List.take_of_length_le (show pre.length ≤ k by omega), List.take_append, List.take_of_length_le (show u.length ≤ k - pre.length by omega)]
theorem gu_cut (pre rest : List UInt8) (n k a : Nat) (hn : n < 18446744073709551616) (ha : a = pre.length) (h1 : a ≤ k) (h2 : k < a + (uv n).length) : gu ((pre ++ (uv n ++ rest)).take k) (a : Int) = (0, 0, 11) := by
  subst ha
  have hl := uv_len_ten n hn
  refine gu_short _ _ (k - pre.length) (by omega) (fun j hj => ?_) (by rw [List.length_take, List.length_append, List.length_append]; omega)
  obtain ⟨x, hx, hx2⟩ := uv_cont n j (by omega)
  refine ⟨x, ?_, hx2⟩
  rw [List.getElem?_take, if_pos (by omega), List.getElem?_append_right (by omega), Nat.add_sub_cancel_left, List.getElem?_append_left (by omega)]
  exact hx

theorem rdE_cut (e : Ev) (hok : e.ok) (hr : rightB e = true) (k : Nat) (hk : k < (evB e).length) : rdE ((evB e).take k) 0 = (Ev.zero, 0, 11) := by
  obtain ⟨p1, p2, p3, p4, p5, p6, p7, p8, p9⟩ := right_pos hr
  have hK := hok.K
  have hA := hok.A
  obtain ⟨l, hl⟩ : ∃ l, l = (evB e).take k := ⟨_, rfl⟩
  have hp := evB_parts e
  rw [← hl]
  obtain ⟨K, At, N, P, A, B, S⟩ := e
  simp only at p1 p2 p3 p4 p5 p6 p7 p8 p9 hK hA hp
  obtain ⟨a, ha⟩ : ∃ k, k = At.toNat := ⟨_, rfl⟩
  obtain ⟨n, hn⟩ : ∃ k, k = N.toNat := ⟨_, rfl⟩
  obtain ⟨p, hpp⟩ : ∃ k, k = P.toNat := ⟨_, rfl⟩
  obtain ⟨b, hb⟩ : ∃ k, k = B.toNat := ⟨_, rfl⟩
  obtain ⟨z, hz⟩ : ∃ k, k = zz A := ⟨_, rfl⟩
  rw [← ha, ← hn, ← hpp, ← hb, ← hz] at hp
  have hzl : z < 18446744073709551616 := by rw [hz]; exact zz_lt A hA.1 hA.2
  rw [hp] at hk hl
  simp only [List.length_append] at hk
  -- 1
  by_cases c1 : k < (uv K).length
  · have g1 := rdN_err (x := 11) (a := 0) (by have := gu_cut [] (uv a ++ (uv n ++ (uv p ++ (uv z ++ (uv b ++ (uv S.length ++ S)))))) K k 0 (by omega) rfl (by omega) (by omega); rw [List.nil_append, ← hl] at this; exact congrArg (fun q => q.2.2) this) (by decide)
    obtain ⟨⟨x, y, u⟩, hq⟩ : ∃ q, rdN l 0 0 = q := ⟨_, rfl⟩
    rw [hq] at g1; simp only at g1; subst g1
    unfold rdE
    simp only [hq, rdN_bad _ _ 11 (by decide), rdI_bad _ _ 11 (by decide), rdS_bad _ _ 11 (by decide)]
    rfl
  have r1 : rdN l 0 0 = (K, (uv K).length, 0) := by
    rw [hl]
    have := take_in [] (uv K) (uv a ++ (uv n ++ (uv p ++ (uv z ++ (uv b ++ (uv S.length ++ S)))))) k (by first | omega | (simp <;> omega))
    rw [List.nil_append, List.nil_append] at this
    rw [this]
    have := rdN_uv [] ((uv a ++ (uv n ++ (uv p ++ (uv z ++ (uv b ++ (uv S.length ++ S)))))).take (k - ([] : List UInt8).length - (uv K).length)) K 0 (by omega) rfl
    rw [List.nil_append, Nat.zero_add] at this
    exact this
  -- 2
  have e2 : l = ((uv K) ++ (uv a ++ (uv n ++ (uv p ++ (uv z ++ (uv b ++ (uv S.length ++ S))))))).take k := by rw [hl] <;> simp
  by_cases c2 : k < (uv K).length + (uv a).length
  · have g1 := rdN_err (x := 11) (a := (uv K).length) (by have := gu_cut (uv K) (uv n ++ (uv p ++ (uv z ++ (uv b ++ (uv S.length ++ S))))) a k ((uv K).length) (by omega) (by simp) (by omega) c2; rw [← e2] at this; exact congrArg (fun q => q.2.2) this) (by decide)
    obtain ⟨⟨x, y, u⟩, hq⟩ : ∃ q, rdN l ((uv K).length) 0 = q := ⟨_, rfl⟩
    rw [hq] at g1; simp only at g1; subst g1
    unfold rdE
    simp only [r1, hq, rdN_bad _ _ 11 (by decide), rdI_bad _ _ 11 (by decide), rdS_bad _ _ 11 (by decide)]
    rfl
  have r2 : rdN l ((uv K).length) 0 = (a, (uv K).length + (uv a).length, 0) := by
    rw [e2, take_in _ _ _ k (by first | omega | (simp <;> omega))]
    exact rdN_uv _ _ a _ (by omega) (by simp)
  -- 3
  have e3 : l = ((uv K ++ (uv a)) ++ (uv n ++ (uv p ++ (uv z ++ (uv b ++ (uv S.length ++ S)))))).take k := by rw [hl] <;> simp
  by_cases c3 : k < (uv K).length + (uv a).length + (uv n).length
  · have g1 := rdN_err (x := 11) (a := (uv K).length + (uv a).length) (by have := gu_cut (uv K ++ (uv a)) (uv p ++ (uv z ++ (uv b ++ (uv S.length ++ S)))) n k ((uv K).length + (uv a).length) (by omega) (by first | omega | (simp <;> omega)) (by omega) c3; rw [← e3] at this; exact congrArg (fun q => q.2.2) this) (by decide)
    obtain ⟨⟨x, y, u⟩, hq⟩ : ∃ q, rdN l ((uv K).length + (uv a).length) 0 = q := ⟨_, rfl⟩
    rw [hq] at g1; simp only at g1; subst g1
    unfold rdE
    simp only [r1, r2, hq, rdN_bad _ _ 11 (by decide), rdI_bad _ _ 11 (by decide), rdS_bad _ _ 11 (by decide)]
    rfl
  have r3 : rdN l ((uv K).length + (uv a).length) 0 = (n, (uv K).length + (uv a).length + (uv n).length, 0) := by
    rw [e3, take_in _ _ _ k (by first | omega | (simp <;> omega))]
    exact rdN_uv _ _ n _ (by omega) (by first | omega | (simp <;> omega))
  -- 4
  have e4 : l = ((uv K ++ (uv a ++ (uv n))) ++ (uv p ++ (uv z ++ (uv b ++ (uv S.length ++ S))))).take k := by rw [hl] <;> simp
  by_cases c4 : k < (uv K).length + (uv a).length + (uv n).length + (uv p).length
  · have g1 := rdN_err (x := 11) (a := (uv K).length + (uv a).length + (uv n).length) (by have := gu_cut (uv K ++ (uv a ++ (uv n))) (uv z ++ (uv b ++ (uv S.length ++ S))) p k ((uv K).length + (uv a).length + (uv n).length) (by omega) (by first | omega | (simp <;> omega)) (by omega) c4; rw [← e4] at this; exact congrArg (fun q => q.2.2) this) (by decide)
    obtain ⟨⟨x, y, u⟩, hq⟩ : ∃ q, rdN l ((uv K).length + (uv a).length + (uv n).length) 0 = q := ⟨_, rfl⟩
    rw [hq] at g1; simp only at g1; subst g1
    unfold rdE
    simp only [r1, r2, r3, hq, rdN_bad _ _ 11 (by decide), rdI_bad _ _ 11 (by decide), rdS_bad _ _ 11 (by decide)]
    rfl
  have r4 : rdN l ((uv K).length + (uv a).length + (uv n).length) 0 = (p, (uv K).length + (uv a).length + (uv n).length + (uv p).length, 0) := by
    rw [e4, take_in _ _ _ k (by first | omega | (simp <;> omega))]
    exact rdN_uv _ _ p _ (by omega) (by first | omega | (simp <;> omega))
  -- 5
  have e5 : l = ((uv K ++ (uv a ++ (uv n ++ (uv p)))) ++ (uv z ++ (uv b ++ (uv S.length ++ S)))).take k := by rw [hl] <;> simp
  by_cases c5 : k < (uv K).length + (uv a).length + (uv n).length + (uv p).length + (uv z).length
  · have g1 := rdI_err (x := 11) (a := (uv K).length + (uv a).length + (uv n).length + (uv p).length) (by have := gu_cut (uv K ++ (uv a ++ (uv n ++ (uv p)))) (uv b ++ (uv S.length ++ S)) z k ((uv K).length + (uv a).length + (uv n).length + (uv p).length) hzl (by first | omega | (simp <;> omega)) (by omega) c5; rw [← e5] at this; exact congrArg (fun q => q.2.2) this) (by decide)
    obtain ⟨⟨x, y, u⟩, hq⟩ : ∃ q, rdI l ((uv K).length + (uv a).length + (uv n).length + (uv p).length) 0 = q := ⟨_, rfl⟩
    rw [hq] at g1; simp only at g1; subst g1
    unfold rdE
    simp only [r1, r2, r3, r4, hq, rdN_bad _ _ 11 (by decide), rdI_bad _ _ 11 (by decide), rdS_bad _ _ 11 (by decide)]
    rfl
  have r5 : rdI l ((uv K).length + (uv a).length + (uv n).length + (uv p).length) 0 = (A, (uv K).length + (uv a).length + (uv n).length + (uv p).length + (uv z).length, 0) := by
    rw [e5, take_in _ _ _ k (by first | omega | (simp <;> omega))]
    exact rdI_uv' _ _ A _ z hA.1 hA.2 hz (by first | omega | (simp <;> omega))
  -- 6
  have e6 : l = ((uv K ++ (uv a ++ (uv n ++ (uv p ++ (uv z))))) ++ (uv b ++ (uv S.length ++ S))).take k := by rw [hl] <;> simp
  by_cases c6 : k < (uv K).length + (uv a).length + (uv n).length + (uv p).length + (uv z).length + (uv b).length
  · have g1 := rdN_err (x := 11) (a := (uv K).length + (uv a).length + (uv n).length + (uv p).length + (uv z).length) (by have := gu_cut (uv K ++ (uv a ++ (uv n ++ (uv p ++ (uv z))))) (uv S.length ++ S) b k ((uv K).length + (uv a).length + (uv n).length + (uv p).length + (uv z).length) (by omega) (by first | omega | (simp <;> omega)) (by omega) c6; rw [← e6] at this; exact congrArg (fun q => q.2.2) this) (by decide)
    obtain ⟨⟨x, y, u⟩, hq⟩ : ∃ q, rdN l ((uv K).length + (uv a).length + (uv n).length + (uv p).length + (uv z).length) 0 = q := ⟨_, rfl⟩
    rw [hq] at g1; simp only at g1; subst g1
    unfold rdE
    simp only [r1, r2, r3, r4, r5, hq, rdN_bad _ _ 11 (by decide), rdI_bad _ _ 11 (by decide), rdS_bad _ _ 11 (by decide)]
    rfl
  have r6 : rdN l ((uv K).length + (uv a).length + (uv n).length + (uv p).length + (uv z).length) 0 = (b, (uv K).length + (uv a).length + (uv n).length + (uv p).length + (uv z).length + (uv b).length, 0) := by
    rw [e6, take_in _ _ _ k (by first | omega | (simp <;> omega))]
    exact rdN_uv _ _ b _ (by omega) (by first | omega | (simp <;> omega))
  -- 7
  have e7 : l = ((uv K ++ (uv a ++ (uv n ++ (uv p ++ (uv z ++ uv b))))) ++ (uv S.length ++ S)).take k := by rw [hl] <;> simp
  have g7 : (rdS l ((uv K).length + (uv a).length + (uv n).length + (uv p).length + (uv z).length + (uv b).length) 0).2.2 = 11 := by
    have hgb : (gb l (((uv K).length + (uv a).length + (uv n).length + (uv p).length + (uv z).length + (uv b).length : Nat) : Int) 40).2.2 = 11 := by
      by_cases c7 : k < (uv K).length + (uv a).length + (uv n).length + (uv p).length + (uv z).length + (uv b).length + (uv S.length).length
      · have := gu_cut (uv K ++ (uv a ++ (uv n ++ (uv p ++ (uv z ++ uv b))))) S S.length k ((uv K).length + (uv a).length + (uv n).length + (uv p).length + (uv z).length + (uv b).length) (by omega) (by first | omega | (simp <;> omega)) (by omega) c7
        rw [← e7] at this
        unfold gb
        rw [this, if_pos (by simp)]
      · have ht := take_in (uv K ++ (uv a ++ (uv n ++ (uv p ++ (uv z ++ uv b))))) (uv S.length) S k (by first | omega | (simp <;> omega))
        have := gu_uv (uv K ++ (uv a ++ (uv n ++ (uv p ++ (uv z ++ uv b))))) (S.take (k - (uv K ++ (uv a ++ (uv n ++ (uv p ++ (uv z ++ uv b))))).length - (uv S.length).length)) S.length (((uv K).length + (uv a).length + (uv n).length + (uv p).length + (uv z).length + (uv b).length : Nat) : Int) (by omega) (by first | omega | (simp <;> omega))
        rw [← ht, ← e7] at this
        have hll : l.length = k := by rw [hl, List.length_take]; simp; omega
        unfold gb
        rw [this, if_neg (by simp), if_neg (by simp only; omega), if_pos (by rw [hll]; simp only [List.length_append]; omega)]
    unfold rdS
    rw [if_neg (by simp), if_neg (by rw [hgb]; decide), if_pos (by rw [hgb]; decide)]
    exact hgb
  obtain ⟨⟨x, y, u⟩, hq⟩ : ∃ q, rdS l ((uv K).length + (uv a).length + (uv n).length + (uv p).length + (uv z).length + (uv b).length) 0 = q := ⟨_, rfl⟩
  rw [hq] at g7; simp only at g7; subst g7
  unfold rdE
  simp only [r1, r2, r3, r4, r5, r6, hq]
  rfl
end Go.Proofs.Ytphjmbhlokkdiaa
