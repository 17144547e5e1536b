import Derived.Test.YtcidifmikcnkcaaRingL
/- Rings: what the statements ask: takes, has. -/
namespace Go.Proofs.Ytcidifmikcnkcaa
open Go.RowKit Go.Maps Go.WideShapes Go.WideMaps Go.Sort
set_option linter.unusedSimpArgs false
set_option linter.unusedVariables false

set_option maxRecDepth 100000 in
set_option maxHeartbeats 4000000 in
theorem takes_any {W : World} {base p : Nat} {most : Int} {qs : List (Nm × Qu)} (h : RIs W base p most qs) (nm : Nm) (hn : nm.length ≤ maxLen) (hl : qs.length ≤ 100000) (x : Int) (ok : Bool) (hx : lookR (getQ qs most nm) = (x, ok)) :
    Calls Try.prog 17 #[.pointer (some ⟨p, 0, none⟩), .string (bstr nm), .int .i64 x, .bool ok] W fun e w' => e = .returned (.bool true) ∧ RIs w' base p most (takeR qs most nm) ∧ Below base W w' := by
  go_enter Try.func17, Try.ntmps17
  go_wp2_with fail
  refine (Take_any h nm hn hl).mono ?_; rintro e w1 ⟨rfl, h1, hb1⟩
  rw [hx]
  cases ok
  all_goals
    go_wp2_with fail
    go_ret
    exact ⟨rfl, h1, hb1⟩
set_option maxRecDepth 100000 in
set_option maxHeartbeats 4000000 in
theorem has_any {W : World} {base p : Nat} {most : Int} {qs : List (Nm × Qu)} (h : RIs W base p most qs) (nm : Nm) (hn : nm.length ≤ maxLen) (B : Option Addr) (m d : Nat) (l : List Int) (hs : Sl W 1 B m d (intsL l)) (hq : (getQ qs most nm).l = l) (hm : m ≤ 1000000) :
    Calls Try.prog 29 #[.pointer (some ⟨p, 0, none⟩), .string (bstr nm), .slice B m d] W fun e w' => e = .returned (.bool true) ∧ Below W.heap.size W w' := by
  have hl := slI_len hs
  go_enter Try.func29, Try.ntmps29
  go_wp2_with fail
  refine (Look_any h nm hn).mono ?_; rintro e w1 ⟨rfl, hb1⟩
  have h1 := h.below hb1
  have s1 := hs.below hb1
  clear h hs
  obtain ⟨r, hr⟩ : ∃ r, lookR (getQ qs most nm) = r := ⟨_, rfl⟩
  rw [hr]
  obtain ⟨n, ok⟩ := r
  go_wp2_with fail
  refine (All_any h1 nm hn).mono ?_; rintro e w2 ⟨A2, c2, rfl, o2, hb2⟩
  have h2 := h1.below hb2
  have s2 := s1.below hb2
  have hbB := hb1.trans (hb2.mono hb1.size)
  rw [hq, hl] at o2 ⊢
  clear h1 s1 hb1 hb2
  go_wp2_with fail
  refine (sameInts_any _ _ _ _ _ l _ o2.sl s2 hm).mono ?_; rintro e w3 ⟨rfl, hb3⟩
  have h3 := h2.below hb3
  have s3 := s2.below hb3
  have hbC := hbB.trans (hb3.mono hbB.size)
  clear h2 s2 hbB hb3 o2
  go_wp2_with fail
  refine (Len_any h3 nm hn).mono ?_; rintro e w4 ⟨rfl, hb4⟩
  have s4 := s3.below hb4
  have hbD := hbC.trans (hb4.mono hbC.size)
  rw [hq, hl]
  unfold lookR at hr
  rw [hq] at hr
  clear h3 s3 hbC hb4
  cases l with
  | nil =>
    simp only [Prod.mk.injEq] at hr
    obtain ⟨rfl, rfl⟩ := hr
    simp only [List.length_nil] at hl
    subst hl
    go_wp2_with fail
    go_ret
    exact ⟨rfl, hbD⟩
  | cons x r =>
    simp only [Prod.mk.injEq] at hr
    obtain ⟨rfl, rfl⟩ := hr
    obtain ⟨ad, rfl, hc⟩ := slI_cell s4 (k := 0) rfl
    have hmp : 0 < m := by rw [← hl]; simp
    have hc0 : w4.cell? ad = some (.int .i64 x) := by simpa [Addr.add] using hc
    clear hc hl s4
    go_wp2_with fail
    go_ret
    exact ⟨rfl, hbD⟩
end Go.Proofs.Ytcidifmikcnkcaa
