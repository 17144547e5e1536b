import Derived.Test.YtbnifagmbhiblaaRefG
import Derived.Test.YtbnifagmbhiblaaFrameLaw
namespace Go.Proofs.Ytbnifagmbhiblaa
open Go.RowKit
set_option linter.unusedSimpArgs false
set_option linter.unusedVariables false

/-- what is put, and the error -/
def ptd (a b : List UInt8) : List UInt8 × Nat := if b.length = 0 then ([], 2) else (a ++ frm b, 0)
theorem put_tells (A B : Option Addr) (n m d : Nat) (l b : List UInt8) (w : World) (hs : Sl w 1 A n n (bytesV l)) (ht : Sl w 1 B m d (bytesV b)) (hn : n ≤ 2000) (hm : m ≤ 2000) (hA : ∀ ad, A = some ad → ad.block < w.heap.size) :
    Calls Try.prog 44 #[.slice A n n, .slice B m d] w fun e w' => ∃ A' n' c', e = .returned (.tuple #[.slice A' n' c', .int .i64 ((ptd l b).2 : Nat)]) ∧ Sl w' 1 A' n' c' (bytesV (ptd l b).1) ∧ Below w.heap.size w w' := by
  have hb := ht.blen
  unfold ptd
  by_cases h : m = 0
  · subst h
    rw [if_pos hb]
    exact (put_none A B n n d w).mono fun e w' ⟨h1, h2⟩ => ⟨none, 0, 0, h1, Sl.nil _ _, h2 ▸ Below.refl _ _⟩
  · rw [if_neg (by omega)]
    have hrow : rowOf w.heap.size A = none := by
      cases A with
      | none => rfl
      | some ad => exact rowOf_lt (hA ad rfl)
    exact (put_any w.heap.size A B n n m d l b w (.inr ⟨hs, rfl⟩) (Nat.le_refl _) ht (fun ad _ => by rw [hrow]; simp) (by omega) (by omega) (by omega)).mono fun e w' ⟨A1, n1, c1, h1, h2⟩ => ⟨A1, n1, c1, h1, h2.app.sl, h2.below (Nat.le_refl _)⟩
theorem refPut_tells (A B : Option Addr) (n c m d : Nat) (l b : List UInt8) (w : World) (hs : Sl w 1 A n c (bytesV l)) (ht : Sl w 1 B m d (bytesV b)) (hn : n ≤ 2000) (hm : m ≤ 2000) :
    Calls Try.prog 48 #[.slice A n c, .slice B m d] w fun e w' => ∃ A' n' c', e = .returned (.tuple #[.slice A' n' c', .int .i64 ((ptd l b).2 : Nat)]) ∧ Sl w' 1 A' n' c' (bytesV (ptd l b).1) ∧ Below w.heap.size w w' := by
  have hb := ht.blen
  unfold ptd
  by_cases h : m = 0
  · subst h
    rw [if_pos hb]
    exact (refPut_none A B n c d w).mono fun e w' ⟨h1, h2⟩ => ⟨none, 0, 0, h1, Sl.nil _ _, h2⟩
  · rw [if_neg (by omega)]
    exact (refPut_any A B n c m d l b w hs ht (by omega) (by omega) (by omega)).mono fun e w' ⟨A1, n1, c1, h1, h2, h3⟩ => ⟨A1, n1, c1, h1, h2, h3⟩

set_option maxRecDepth 100000 in
set_option maxHeartbeats 2000000 in
theorem walk_frameTells (A B C : Option Addr) (na pa nb pb nc pc : Nat) (a b c : List UInt8) (at_ : Int) (w : World) (sa : Sl w 1 A na pa (bytesV a)) (sb : Sl w 1 B nb pb (bytesV b)) (sc : Sl w 1 C nc pc (bytesV c))
    (ya : na ≤ 140737488351232) (yb : nb ≤ 140737488351232) (yc : nc ≤ 140737488351232) :
    Calls Try.prog 11 #[.slice A na pa, .slice B nb pb, .slice C nc pc, .int .i64 at_] w fun e w' => e = .returned (.bool true) ∧ Below w.heap.size w w' := by
  by_cases h0 : 2000 < na + nb + nc
  · go_enter Try.func11, Try.ntmps11
    go_wp2_with (go_at_call 47; refine (awake03_any _).mono ?_; rintro e w6 ⟨rfl, hn6⟩)
    go_ret
    exact ⟨rfl, hn6⟩
  have hna : na ≤ 2000 := by omega
  have hnb : nb ≤ 2000 := by omega
  have hnc : nc ≤ 2000 := by omega
  clear ya yb yc
  obtain ⟨⟨X, ex⟩, hP⟩ : ∃ g, ptd a b = g := ⟨_, rfl⟩
  obtain ⟨⟨Y, ny, ey⟩, hF⟩ : ∃ g, fg c at_ = g := ⟨_, rfl⟩
  have HP := Lib.hid hP
  have HF := Lib.hid hF
  clear hP hF
  go_enter Try.func11, Try.ntmps11
  go_wp2_with fail
  refine (copyBytes_any _ _ _ a _ sa (by omega)).mono ?_; rintro e w1 ⟨rfl, hown1, hb1⟩
  have hlt1 : w.heap.size < w1.heap.size := (hown1.lt w.heap.size rfl).2
  have si1 := ownsRow_sl hown1
  have sa1 := sa.below hb1
  have sb1 := sb.below hb1
  have sc1 := sc.below hb1
  clear hown1 sa sb sc
  go_wp2_with fail
  refine (put_tells _ _ _ _ _ a b _ si1 sb1 hna hnb (fun ad had => by cases had; exact hlt1)).mono ?_; rintro e w2 ⟨A2, n2, c2, rfl, sx2, hb2⟩
  rw [HP.out] at sx2 ⊢
  dsimp only at sx2 ⊢
  have sa2 := sa1.below hb2
  have sb2 := sb1.below hb2
  have sc2 := sc1.below hb2
  have hbA := hb1.trans (hb2.mono hb1.size)
  clear si1 sa1 sb1 sc1 hb1 hb2 hlt1
  go_wp2_with fail
  refine (refPut_tells _ _ _ _ _ _ a b _ sa2 sb2 hna hnb).mono ?_; rintro e w3 ⟨A3, n3, c3, rfl, sy3, hb3⟩
  rw [HP.out] at sy3 ⊢
  dsimp only at sy3 ⊢
  have sx3 := sx2.below hb3
  have sc3 := sc2.below hb3
  have hbB := hbA.trans (hb3.mono hbA.size)
  clear sa2 sb2 sc2 sx2 hb3 hbA
  go_wp2_with fail
  refine (copyBytes_any _ _ _ c _ sc3 (by omega)).mono ?_; rintro e w4 ⟨rfl, hown4, hb4⟩
  have si4 := ownsRow_sl hown4
  have sx4 := sx3.below hb4
  have sy4 := sy3.below hb4
  have sc4 := sc3.below hb4
  have hbC := hbB.trans (hb4.mono hbB.size)
  clear hown4 sx3 sy3 sc3 hb4 hbB
  go_wp2_with fail
  refine (get_any _ _ _ c _ _ si4 (by omega)).mono ?_; rintro e w5 ⟨v, rfl, hown5, hb5⟩
  rw [HF.out] at hown5 ⊢
  obtain ⟨A5, c5, rfl, sp5, _⟩ := own_form hown5
  dsimp only at sp5 ⊢
  have si5 := si4.below hb5
  have sx5 := sx4.below hb5
  have sy5 := sy4.below hb5
  have sc5 := sc4.below hb5
  have hbD := hbC.trans (hb5.mono hbC.size)
  clear hown5 si4 sx4 sy4 sc4 hb5 hbC
  go_wp2_with fail
  refine (refGet_any _ _ _ c _ _ sc5 (by omega)).mono ?_; rintro e w6 ⟨A6, n6, c6, rfl, sq6, hb6⟩
  rw [HF.out] at sq6 ⊢
  dsimp only at sq6 ⊢
  have si6 := si5.below hb6
  have sx6 := sx5.below hb6
  have sy6 := sy5.below hb6
  have sc6 := sc5.below hb6
  have sp6 := sp5.below hb6
  have hbE := hbD.trans (hb6.mono hbD.size)
  clear si5 sx5 sy5 sc5 sp5 hb6 hbD
  go_wp2_with fail
  refine (sameBytes_lit _ _ _ _ _ _ X X true _ sx6 sy6 (by simp)).mono ?_; rintro e w7 ⟨rfl, hb7⟩
  have si7 := si6.below hb7
  have sc7 := sc6.below hb7
  have sp7 := sp6.below hb7
  have sq7 := sq6.below hb7
  have hbF := hbE.trans (hb7.mono hbE.size)
  clear si6 sx6 sy6 sc6 sp6 sq6 hb7 hbE
  go_wp2_with fail
  refine (sameBytes_lit _ _ _ _ _ _ Y Y true _ sp7 sq7 (by simp)).mono ?_; rintro e w8 ⟨rfl, hb8⟩
  have si8 := si7.below hb8
  have sc8 := sc7.below hb8
  have hbG := hbF.trans (hb8.mono hbF.size)
  clear si7 sc7 sp7 sq7 hb8 hbF
  go_wp2_with fail
  refine (sameBytes_lit _ _ _ _ _ _ c c true _ si8 sc8 (by simp)).mono ?_; rintro e w9 ⟨rfl, hb9⟩
  have hbH := hbG.trans (hb9.mono hbG.size)
  clear si8 sc8 hb9 hbG
  go_wp2_with (go_at_call 47; refine (awake03_any _).mono ?_; rintro e w10 ⟨rfl, hn10⟩)
  go_ret
  exact ⟨rfl, hbH.trans (hn10.mono hbH.size)⟩
end Go.Proofs.Ytbnifagmbhiblaa
