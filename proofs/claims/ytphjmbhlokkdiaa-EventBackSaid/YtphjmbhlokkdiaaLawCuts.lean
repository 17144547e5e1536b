import Derived.Test.YtphjmbhlokkdiaaPureEv
import Derived.Test.YtphjmbhlokkdiaaPickK
namespace Go.Proofs.Ytphjmbhlokkdiaa
open Go.RowKit
set_option linter.unusedSimpArgs false
set_option linter.unusedVariables false

theorem evB_len (e : Ev) (hok : e.ok) (hr : rightB e = true) : (evB e).length ≤ 110 := by
  obtain ⟨p1, p2, p3, p4, p5, p6, p7, p8, p9⟩ := right_pos hr
  have hK := hok.K
  have hA := hok.A
  rw [evB_parts]
  simp only [List.length_append]
  have u1 := uv_len_ten e.K (by omega)
  have u2 := uv_len_ten e.At.toNat (by omega)
  have u3 := uv_len_ten e.N.toNat (by omega)
  have u4 := uv_len_ten e.P.toNat (by omega)
  have u5 := uv_len_ten (zz e.A) (zz_lt e.A hA.1 hA.2)
  have u6 := uv_len_ten e.B.toNat (by omega)
  have u7 := uv_len_ten e.S.length (by omega)
  omega
theorem EvIn.belowN {N g : Nat} {w w' : World} {e : Ev} (h : EvIn w g e) (hb : Below N w w') (hg : g < N) : EvIn w' g e := fun j u hj => (World.cell?_of_block (hb.block _ hg)).trans (h j u hj)
theorem rdEv_at (l : List UInt8) (a : Nat) (h : a ≤ l.length) : rdEv l (a : Int) = rdE l a := by
  unfold rdEv
  rw [if_neg (by omega), Int.toNat_natCast]
theorem rdEv_zero (l : List UInt8) : rdEv l 0 = rdE l 0 := rdEv_at l 0 (by omega)

set_option maxRecDepth 100000 in
set_option maxHeartbeats 4000000 in
theorem walk_cuts (e : Ev) (cut : Int) (A : Option Addr) (n c : Nat) (l : List UInt8) (w : World) (he : e.ok) (hs : Sl w 1 A n c (bytesV l)) :
    Calls Try.prog 10 #[e.v, .int .i64 cut, .slice A n c] w fun x w' => x = .returned (.bool true) ∧ Below w.heap.size w w' := by
  have hbe := box_in w e
  have hbA := below_alloc1 w (.cells e.cells.toArray 24)
  have hse : (bstr e.S).size = e.S.length := rfl
  obtain ⟨z1, hz1⟩ : ∃ z, rightB e = z := ⟨_, rfl⟩
  have Hz1 := Lib.hid hz1
  clear hz1
  have e6 := hbe 6 _ rfl
  unfold Ev.v
  unfold Ev.cells at *
  go_enter Try.func10, Try.ntmps10
  by_cases h1 : 3000 < e.S.length
  · go_wp2_with (go_at_call 15; refine (awake11_any _).mono ?_; rintro x w6 ⟨rfl, hn6⟩)
    go_ret
    exact ⟨rfl, hbA.trans (hn6.mono hbA.size)⟩
  by_cases h2 : (100 : Int) < (n : Int)
  · go_wp2_with (go_at_call 15; refine (awake11_any _).mono ?_; rintro x w6 ⟨rfl, hn6⟩)
    go_ret
    exact ⟨rfl, hbA.trans (hn6.mono hbA.size)⟩
  have e0 := hbe 0 _ rfl
  have e1 := hbe 1 _ rfl
  have e2 := hbe 2 _ rfl
  have e3 := hbe 3 _ rfl
  have e4 := hbe 4 _ rfl
  have e5 := hbe 5 _ rfl
  go_wp2_with fail
  have hs0 := hs.below hbA
  generalize w.alloc (.cells #[.int .u8 (e.K : Int), .int .i64 e.At, .int .i64 e.N, .int .i64 e.P, .int .i64 e.A, .int .i64 e.B, .string (bstr e.S)] 24) = W0 at *
  clear e0 e1 e2 e3 e4 e5 e6
  refine (right_any e _ he.K).mono ?_; rintro x w1 ⟨rfl, hn1⟩
  rw [Hz1.out]
  have hbe := hbe.below hn1
  have hs1 := hs0.below hn1
  have hbB := hbA.trans (hn1.mono hbA.size)
  clear hn1 hbA hs0 hs
  cases z1 with
  | false =>
    go_wp2_with (go_at_call 15; refine (awake11_any _).mono ?_; rintro x w6 ⟨rfl, hn6⟩)
    go_ret
    exact ⟨rfl, hbB.trans (hn6.mono hbB.size)⟩
  | true =>
    have e0 := hbe 0 _ rfl
    have e1 := hbe 1 _ rfl
    have e2 := hbe 2 _ rfl
    have e3 := hbe 3 _ rfl
    have e4 := hbe 4 _ rfl
    have e5 := hbe 5 _ rfl
    have e6 := hbe 6 _ rfl
    go_wp2_with fail
    clear e0 e1 e2 e3 e4 e5 e6
    refine (evBytes_any w1.heap.size none 0 0 [] e _ (App.nil _ _ _ _) (Nat.le_refl _) (fun ad h => by cases h) (by omega) he Hz1.out).mono ?_; rintro x w3 ⟨A3, n3, c3, rfl, hto⟩
    have hn3 := hto.below (Nat.le_refl _)
    have sa := hto.app.sl
    rw [List.nil_append] at sa
    have hbe := hbe.below hn3
    have hs3 := hs1.below hn3
    have hbD := hbB.trans (hn3.mono hbB.size)
    have hl3 := sa.blen
    have hc3 := sa.le
    have hlb := evB_len e he Hz1.out
    have hlp := evB_pos e
    have hn3l : n3 ≤ 110 := by omega
    have hn3p : 0 < n3 := by omega
    have Hl3 := Lib.hid hl3
    clear hto hn3 hbB hs1 hlb hlp hl3
    go_wp2_with (go_at_call 19; refine (pickK_any cut n3 _ hn3p (by omega)).mono ?_; rintro x w' ⟨⟨k, hk, rfl⟩, rfl⟩)
    refine (read_any A3 k c3 ((evB e).take k) 0 _ (slb_to sa k (by omega)) (by omega) (by omega)).mono ?_; rintro x w4 ⟨rfl, hb4⟩
    rw [rdEv_zero, rdE_cut e he Hz1.out k (by have := Hl3.out; omega)]
    have hbe := hbe.below hb4
    have hs4 := hs3.below hb4
    have sa := sa.below hb4
    have hbE := hbD.trans (hb4.mono hbD.size)
    clear hs3 hb4 hbD
    simp only [Ev.zero, Ev.v, Ev.cells]
    go_wp2_with fail
    have hb5 := below_alloc1 w4 (.cells #[.int .u8 0, .int .i64 0, .int .i64 0, .int .i64 0, .int .i64 0, .int .i64 0, .string (bstr [])] 24)
    have hbe := hbe.below hb5
    have hs5 := hs4.below hb5
    have sa := sa.below hb5
    have hbF := hbE.trans (hb5.mono hbE.size)
    clear hs4 hb5 hbE
    have hbe5 := hbe
    generalize w4.alloc (.cells #[.int .u8 0, .int .i64 0, .int .i64 0, .int .i64 0, .int .i64 0, .int .i64 0, .string (bstr [])] 24) = w5 at *
    refine (copyBytes_any A3 n3 c3 (evB e) _ sa (by omega)).mono ?_; rintro x w6 ⟨rfl, hown6, hb6⟩
    have hbe := hbe.below hb6
    have hs6 := hs5.below hb6
    have hbG := hbF.trans (hb6.mono hbF.size)
    have Hb6 := Lib.hid hb6.size
    clear hs5 hbF sa
    have hnn : n ≤ 100 := by omega
    go_wp2_with (at_builtin; refine wpList_app _ rfl (.tmp 50) (.tmp 51) 27 rfl w5.heap.size 5 (.int .u8 0) 1 1 Try.underlying27 infoByte rfl (by decide) _ n3 n3 (bytesV (evB e)) rfl (.inl hown6) A n c (bytesV l) rfl hs6 (bytesV_one _) (by unfold maxLen; omega) (by omega) Hb6.out ?_; intro A7 d7 w7 hat7)
    have hn7 := hat7.below Hb6.out
    have s7 : Sl w7 1 A7 (n3 + n) d7 (bytesV (evB e ++ l)) := by rw [bytesV_append]; exact hat7.app.sl
    have hg5 : w.heap.size < w5.heap.size := World.block_lt_of_cell? _ _ (hbe5 0 _ rfl)
    have hbe := hbe.belowN hn7 hg5
    have hbH := hbG.trans (hn7.mono (by omega))
    clear hn7 hbG hat7 hown6 hs6 hb6 hbe5
    refine (read_any A7 (n3 + n) d7 (evB e ++ l) 0 _ s7 (by omega) (by omega)).mono ?_; rintro x w8 ⟨rfl, hb8⟩
    rw [rdEv_zero, show rdE (evB e ++ l) 0 = (e, n3, 0) from by have := rdE_ev [] l e he Hz1.out; rw [List.nil_append, List.length_nil, Nat.zero_add, Hl3.out] at this; exact this]
    have hbe := hbe.below hb8
    have hbI := hbH.trans (hb8.mono hbH.size)
    clear hb8 hbH s7
    have e0 := hbe 0 _ rfl
    have e1 := hbe 1 _ rfl
    have e2 := hbe 2 _ rfl
    have e3 := hbe 3 _ rfl
    have e4 := hbe 4 _ rfl
    have e5 := hbe 5 _ rfl
    have e6 := hbe 6 _ rfl
    have hg8 : w.heap.size < w8.heap.size := World.block_lt_of_cell? _ _ e0
    simp only [Ev.v, Ev.cells]
    go_wp2_with (go_at_call 15; refine (awake11_any _).mono ?_; rintro x w9 ⟨rfl, hn9⟩)
    go_ret
    have hb9 := below_alloc1 w8 (.cells #[.int .u8 (e.K : Int), .int .i64 e.At, .int .i64 e.N, .int .i64 e.P, .int .i64 e.A, .int .i64 e.B, .string (bstr e.S)] 24)
    have hbJ := hbI.trans (hb9.mono hbI.size)
    exact ⟨rfl, hbJ.trans (hn9.mono hbJ.size)⟩
end Go.Proofs.Ytphjmbhlokkdiaa
