import Derived.Test.YtbnifagmbhiblaaPureFrame
import Derived.Test.YtbnifagmbhiblaaLawRow
namespace Go.Proofs.Ytbnifagmbhiblaa
open Go.RowKit
set_option linter.unusedSimpArgs false
set_option linter.unusedVariables false

theorem Sl.alloc' {w : World} {n c : Nat} {A : Option Addr} {cs : List Value} (h : Sl w 1 A n c cs) (o : Obj) : Sl (w.alloc o) 1 A n c cs := h.below (below_alloc1 _ _)

theorem sameBytes_any (A B : Option Addr) (n c m d : Nat) (l b : List UInt8) (w : World) (hs : Sl w 1 A n c (bytesV l)) (ht : Sl w 1 B m d (bytesV b)) :
    Calls Try.prog 50 #[.slice A n c, .slice B m d] w fun e w' => e = .returned (.bool (l == b)) ∧ w = w' := by
  have hc1 := run_str hs
  have hc2 := run_str ht
  go_enter Try.func50, Try.ntmps50
  go_wp2_with fail
  go_ret
  exact ⟨rfl, rfl⟩

theorem sameBytes_lit (A B : Option Addr) (n c m d : Nat) (l b : List UInt8) (z : Bool) (w : World) (hs : Sl w 1 A n c (bytesV l)) (ht : Sl w 1 B m d (bytesV b)) (hz : (l == b) = z) :
    Calls Try.prog 50 #[.slice A n c, .slice B m d] w fun e w' => e = .returned (.bool z) ∧ Below w.heap.size w w' :=
  (sameBytes_any A B n c m d l b w hs ht).mono fun e w' ⟨h1, h2⟩ => ⟨by rw [h1, hz], h2 ▸ Below.refl _ _⟩

/-- a frame behind nothing -/
theorem put_nil (B : Option Addr) (m d : Nat) (b : List UInt8) (w : World) (hs : Sl w 1 B m d (bytesV b)) (hm0 : 0 < m) (hm : m ≤ 1048576) :
    Calls Try.prog 44 #[.slice none 0 0, .slice B m d] w fun e w' => ∃ A' n' c', e = .returned (.tuple #[.slice A' n' c', .int .i64 0]) ∧
      App w.heap.size 5 1 w' A' n' c' (bytesV (frm b)) ∧ Below w.heap.size w w' :=
  (put_any w.heap.size none B 0 0 m d [] b w (App.nil _ _ _ _) (Nat.le_refl _) hs (fun ad _ => by simp [rowOf]) (by omega) hm0 hm).mono fun e w1 ⟨A1, n1, c1, he, hto⟩ =>
    ⟨A1, n1, c1, he, by simpa using hto.app, hto.below (Nat.le_refl _)⟩

set_option maxHeartbeats 400000 in
theorem gets_any (A : Option Addr) (n c : Nat) (l x : List UInt8) (nx : Nat) (at_ NX : Int) (S : ByteArray) (w : World) (hs : Sl w 1 A n c (bytesV l)) (hl : n ≤ 35184372088832) (hg : fg l at_ = (x, nx, 0)) (hS : S = bstr x) (hN : NX = nx) :
    Calls Try.prog 64 #[.slice A n c, .int .i64 at_, .string S, .int .i64 NX] w fun e w' => e = .returned (.bool true) ∧ Below w.heap.size w w' := by
  subst hN
  subst hS
  have Hg := Lib.hid hg
  clear hg
  go_enter Try.func64, Try.ntmps64
  go_wp2_with fail
  refine (get_any _ _ _ l _ _ hs hl).mono ?_; rintro e w1 ⟨v, rfl, hown, hb⟩
  rw [Hg.out] at hown ⊢
  obtain ⟨A1, c1, rfl, hs1, _⟩ := own_form hown
  have hc := run_str hs1
  clear hown hs1
  dsimp only at hc ⊢
  go_wp2_with fail
  go_ret
  exact ⟨rfl, hb⟩

set_option maxHeartbeats 400000 in
theorem errs_any (A : Option Addr) (n c : Nat) (l : List UInt8) (er : Nat) (at_ ER : Int) (w : World) (hs : Sl w 1 A n c (bytesV l)) (hE : ER = er) (hl : n ≤ 35184372088832) (hg : fg l at_ = ([], 0, er)) :
    Calls Try.prog 46 #[.int .i64 ER, .int .i64 at_, .slice A n c] w fun e w' => e = .returned (.bool true) ∧ Below w.heap.size w w' := by
  subst hE
  have Hg := Lib.hid hg
  clear hg
  go_enter Try.func46, Try.ntmps46
  go_wp2_with fail
  refine (get_any _ _ _ l _ _ hs hl).mono ?_; rintro e w1 ⟨v, rfl, hown, hb⟩
  rw [Hg.out] at hown ⊢
  obtain ⟨A1, c1, rfl, _, _⟩ := own_form hown
  clear hown
  simp only [List.length_nil]
  go_wp2_with fail
  go_ret
  exact ⟨rfl, hb⟩

theorem frm_a : frm [97] = [1, 97, 232, 183, 190, 67, 165] := by
  unfold frm
  rw [show ([97] : List UInt8).length = 1 from rfl, uv_1]
  decide +kernel

set_option maxRecDepth 100000 in
set_option maxHeartbeats 1000000 in
theorem awake03_any (w : World) : Calls Try.prog 47 #[] w fun e w' => e = .returned (.bool true) ∧ Below w.heap.size w w' := by
  have kc := fun (w : World) (C : Array Value) (n c : Nat) => Lib.run_convert_bytes_const (P := Try.prog) w 26 5 C n c Try.underlying26 Try.underlying5
  go_enter Try.func47, Try.ntmps47
  go_wp2_with fail
  refine (put_nil _ _ _ [97] _ (sl_lit_mark _ [97] 5 _) (by decide) (by decide)).mono ?_; rintro e w1 ⟨A1, n1, c1, rfl, happ, hn⟩
  have hb1 : Below w.heap.size w w1 := (below_alloc1 w _).trans (hn.mono (by simp)); clear hn
  have hs1 := happ.sl
  rw [frm_a] at hs1
  have hn1 : n1 ≤ 7 := by have := hs1.blen; simp at this; omega
  clear happ
  go_wp2_with fail
  refine (sameBytes_lit _ _ _ _ _ _ [1, 97, 232, 183, 190, 67, 165] [1, 97, 232, 183, 190, 67, 165] true _ (hs1.alloc' _) (sl_lit _ [1, 97, 232, 183, 190, 67, 165] 5) (by decide)).mono ?_; rintro e w2 ⟨rfl, hn⟩
  have hn2 : Below w1.heap.size w1 w2 := (below_alloc1 w1 _).trans (hn.mono (by simp)); clear hn
  have hs2 := hs1.below hn2
  have hb2 := hb1.trans (hn2.mono hb1.size)
  clear hs1 hn2 hb1
  go_wp2_with fail
  refine (gets_any _ _ _ [1, 97, 232, 183, 190, 67, 165] [97] 7 _ _ _ _ hs2 (by omega) (by decide +kernel) rfl rfl).mono ?_; rintro e w3 ⟨rfl, hn⟩
  have hs3 := hs2.below hn
  have hb3 := hb2.trans (hn.mono hb2.size)
  clear hs2 hn hb2
  go_wp2_with fail
  refine (errs_any _ _ _ [1, 97, 232, 183, 190, 67, 165] 11 _ _ _ hs3 rfl (by omega) (by decide +kernel)).mono ?_; rintro e w4 ⟨rfl, hn⟩
  have hb4 := hb3.trans (hn.mono hb3.size)
  clear hs3 hn hb3
  go_wp2_with fail
  refine (errs_any _ _ _ [1, 97, 232, 183, 190, 67, 0] 10 _ _ _ (sl_lit _ [1, 97, 232, 183, 190, 67, 0] 5) rfl (by decide) (by decide +kernel)).mono ?_; rintro e w5 ⟨rfl, hn⟩
  have hb5 : Below w.heap.size w w5 := (hb4.alloc hb4.size _).trans (hn.mono (by simp; have := hb4.size; omega)); clear hn hb4
  go_wp2_with fail
  refine (errs_any _ _ _ [1, 98, 232, 183, 190, 67, 165] 12 _ _ _ (sl_lit _ [1, 98, 232, 183, 190, 67, 165] 5) rfl (by decide) (by decide +kernel)).mono ?_; rintro e w6 ⟨rfl, hn⟩
  have hb6 : Below w.heap.size w w6 := (hb5.alloc hb5.size _).trans (hn.mono (by simp; have := hb5.size; omega)); clear hn hb5
  go_wp2_with fail
  refine (errs_any _ _ _ [0] 10 _ _ _ (sl_lit _ [0] 5) rfl (by decide) (by decide +kernel)).mono ?_; rintro e w7 ⟨rfl, hn⟩
  have hb7 : Below w.heap.size w w7 := (hb6.alloc hb6.size _).trans (hn.mono (by simp; have := hb6.size; omega)); clear hn hb6
  go_wp2_with fail
  go_ret
  exact ⟨rfl, hb7⟩
end Go.Proofs.Ytbnifagmbhiblaa
