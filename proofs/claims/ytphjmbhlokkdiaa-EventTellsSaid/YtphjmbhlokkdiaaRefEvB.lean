import Derived.Test.YtphjmbhlokkdiaaRefEv
import Derived.Test.YtphjmbhlokkdiaaPureEv
import Derived.Test.YtphjmbhlokkdiaaRefD
import Derived.Test.YtphjmbhlokkdiaaLawCuts
namespace Go.Proofs.Ytphjmbhlokkdiaa
open Go.RowKit
set_option linter.unusedSimpArgs false
set_option linter.unusedVariables false

set_option maxRecDepth 100000 in
set_option maxHeartbeats 4000000 in
theorem refBytes_none (A : Option Addr) (n c : Nat) (e : Ev) (w : World) (hok : e.ok) (hr : rightB e = false) :
    Calls Try.prog 27 #[.slice A n c, e.v] w fun x w' => x = .returned (.tuple #[.slice none 0 0, .int .i64 102]) ∧ Below w.heap.size w w' := by
  have hbe := box_in w e
  have hbA := below_alloc1 w (.cells e.cells.toArray 24)
  have Hr := Lib.hid hr
  clear hr
  have e0 := hbe 0 _ rfl
  have e1 := hbe 1 _ rfl
  have e2 := hbe 2 _ rfl
  have e3 := hbe 3 _ rfl
  have e4 := hbe 4 _ rfl
  have e5 := hbe 5 _ rfl
  have e6 := hbe 6 _ rfl
  unfold Ev.v
  unfold Ev.cells at *
  go_enter Try.func27, Try.ntmps27
  go_wp2_with fail
  clear e0 e1 e2 e3 e4 e5 e6
  refine (refRight_any e _ hok.K).mono ?_; rintro x w1 ⟨rfl, hn1⟩
  rw [Hr.out]
  go_wp2_with fail
  go_ret2
  exact ⟨rfl, hbA.trans (hn1.mono hbA.size)⟩

set_option maxRecDepth 100000 in
set_option maxHeartbeats 4000000 in
theorem refBytes_any (A : Option Addr) (n c : Nat) (l : List UInt8) (e : Ev) (w : World) (hs : Sl w 1 A n c (bytesV l)) (hn : n ≤ 100000) (hok : e.ok) (hr : rightB e = true) :
    Calls Try.prog 27 #[.slice A n c, e.v] w fun x w' => ∃ A' m c', x = .returned (.tuple #[.slice A' m c', .int .i64 0]) ∧ Sl w' 1 A' m c' (bytesV (l ++ evB e)) ∧ Below w.heap.size w w' := by
  have hbe := box_in w e
  have hbA := below_alloc1 w (.cells e.cells.toArray 24)
  obtain ⟨p1, p2, p3, p4, p5, p6, p7, p8, p9⟩ := right_pos hr
  have hK := hok.K
  have hA := hok.A
  have hp := evB_parts e
  have Hr := Lib.hid hr
  have hl := hs.blen
  obtain ⟨K, At, N, P, B0, B, S⟩ := e
  obtain ⟨a, rfl⟩ : ∃ k : Nat, At = (k : Int) := ⟨At.toNat, by simp only at p1; omega⟩
  obtain ⟨nn, rfl⟩ : ∃ k : Nat, N = (k : Int) := ⟨N.toNat, by simp only at p3; omega⟩
  obtain ⟨p, rfl⟩ : ∃ k : Nat, P = (k : Int) := ⟨P.toNat, by simp only at p5; omega⟩
  obtain ⟨b, rfl⟩ : ∃ k : Nat, B = (k : Int) := ⟨B.toNat, by simp only at p7; omega⟩
  simp only [Int.toNat_natCast] at p1 p2 p3 p4 p5 p6 p7 p8 p9 hK hA hp hn hl
  have hs0 := hs.below hbA
  have HP := Lib.hid hp
  have Hl := Lib.hid hl
  clear hr hp hs hl
  have u1 := uv_len_ten K (by omega)
  have u2 := uv_len_ten a (by omega)
  have u3 := uv_len_ten nn (by omega)
  have u4 := uv_len_ten p (by omega)
  have u5 := uv_len_ten (zz B0) (zz_lt B0 hA.1 hA.2)
  have u6 := uv_len_ten b (by omega)
  have U1 := Lib.hid u1
  have U2 := Lib.hid u2
  have U3 := Lib.hid u3
  have U4 := Lib.hid u4
  have U5 := Lib.hid u5
  have U6 := Lib.hid u6
  clear u1 u2 u3 u4 u5 u6
  have e0 := hbe 0 _ rfl
  have e1 := hbe 1 _ rfl
  have e2 := hbe 2 _ rfl
  have e3 := hbe 3 _ rfl
  have e4 := hbe 4 _ rfl
  have e5 := hbe 5 _ rfl
  have e6 := hbe 6 _ rfl
  unfold Ev.v
  unfold Ev.cells at *
  simp only at *
  go_enter Try.func27, Try.ntmps27
  go_wp2_with fail
  clear e0 e1 e2 e3 e4 e5 e6
  generalize w.alloc (.cells #[.int .u8 (K : Int), .int .i64 (a : Int), .int .i64 (nn : Int), .int .i64 (p : Int), .int .i64 B0, .int .i64 (b : Int), .string (bstr S)] 24) = W0 at *
  refine (refRight_any ⟨K, (a : Int), (nn : Int), (p : Int), B0, (b : Int), S⟩ _ hK).mono ?_; rintro x w1 ⟨rfl, hn1⟩
  rw [Hr.out]
  have hbe := hbe.below hn1
  have hbe1 := hbe
  have hs1 := hs0.below hn1
  have hb1 := hbA.trans (hn1.mono hbA.size)
  clear hs0 hn1 hbA
  have hnew := new_own w1 [] 5 0 rfl (by unfold maxLen; omega)
  have hb2 := below_alloc1 w1 (.cells ([] : List Value).toArray 5)
  have hbe := hbe.below hb2
  have hs2 := hs1.below hb2
  have hb3 := hb1.trans (hb2.mono hb1.size)
  have hbe2 := hbe
  have Hsz := Lib.hid hb2.size
  clear hs1 hb1 hb2
  go_wp2_with (at_builtin; refine wpList_app _ rfl (.tmp 10) (.tmp 11) 27 rfl w1.heap.size 5 (.int .u8 0) 1 1 Try.underlying27 infoByte rfl (by decide) _ 0 0 [] rfl (.inl hnew) A n c (bytesV l) rfl hs2 (bytesV_one _) (by unfold maxLen; omega) (by omega) Hsz.out ?_; intro A7 d7 w7 hat7; have hg5 : w.heap.size < w1.heap.size := World.block_lt_of_cell? _ _ (hbe1 0 _ rfl); have hbe := hbe.belowN (hat7.below Hsz.out) hg5; have hb7 := hb3.trans ((hat7.below Hsz.out).mono (by omega)); have hs7 := hat7.app.sl; rw [List.nil_append] at hs7; clear hat7 hbe2 hs2 hb3 hnew; have e0 := hbe 0 _ rfl)
  rw [Nat.zero_add] at hs7
  have hn7 : n ≤ 100000 := hn
  clear e0
  refine (refUint_any A7 n d7 (l) K _ _ hs7 (by omega) (by omega) rfl).mono ?_; rintro x w8 ⟨A8, n8, c8, rfl, hs8, hx⟩
  have hbe := hbe.below hx
  have hb8 := hb7.trans (hx.mono hb7.size)
  have hn8 : n8 ≤ 100000 + 10 * 1 := by have h := hs8.blen; have h2 := hs7.blen; rw [List.length_append, h2] at h; have := U1.out; omega
  have e1 := hbe 1 _ rfl
  clear hx hs7 hb7
  go_wp2_with fail
  clear e1
  refine (refUint_any A8 n8 c8 (l ++ uv K) a _ _ hs8 (by omega) (by omega) rfl).mono ?_; rintro x w9 ⟨A9, n9, c9, rfl, hs9, hx⟩
  have hbe := hbe.below hx
  have hb9 := hb8.trans (hx.mono hb8.size)
  have hn9 : n9 ≤ 100000 + 10 * 2 := by have h := hs9.blen; have h2 := hs8.blen; rw [List.length_append, h2] at h; have := U2.out; omega
  have e2 := hbe 2 _ rfl
  clear hx hs8 hb8
  go_wp2_with fail
  clear e2
  refine (refUint_any A9 n9 c9 ((l ++ uv K) ++ uv a) nn _ _ hs9 (by omega) (by omega) rfl).mono ?_; rintro x w10 ⟨A10, n10, c10, rfl, hs10, hx⟩
  have hbe := hbe.below hx
  have hb10 := hb9.trans (hx.mono hb9.size)
  have hn10 : n10 ≤ 100000 + 10 * 3 := by have h := hs10.blen; have h2 := hs9.blen; rw [List.length_append, h2] at h; have := U3.out; omega
  have e3 := hbe 3 _ rfl
  clear hx hs9 hb9
  go_wp2_with fail
  clear e3
  refine (refUint_any A10 n10 c10 (((l ++ uv K) ++ uv a) ++ uv nn) p _ _ hs10 (by omega) (by omega) rfl).mono ?_; rintro x w11 ⟨A11, n11, c11, rfl, hs11, hx⟩
  have hbe := hbe.below hx
  have hb11 := hb10.trans (hx.mono hb10.size)
  have hn11 : n11 ≤ 100000 + 10 * 4 := by have h := hs11.blen; have h2 := hs10.blen; rw [List.length_append, h2] at h; have := U4.out; omega
  have e4 := hbe 4 _ rfl
  clear hx hs10 hb10
  go_wp2_with fail
  clear e4
  refine (refInt_any A11 n11 c11 ((((l ++ uv K) ++ uv a) ++ uv nn) ++ uv p) B0 _ hs11 (by omega) hA.1 hA.2).mono ?_; rintro x w12 ⟨A12, n12, c12, rfl, hs12, hx⟩
  have hbe := hbe.below hx
  have hb12 := hb11.trans (hx.mono hb11.size)
  have hn12 : n12 ≤ 100000 + 10 * 5 := by have h := hs12.blen; have h2 := hs11.blen; rw [List.length_append, h2] at h; have := U5.out; omega
  have e5 := hbe 5 _ rfl
  clear hx hs11 hb11
  go_wp2_with fail
  clear e5
  refine (refUint_any A12 n12 c12 (((((l ++ uv K) ++ uv a) ++ uv nn) ++ uv p) ++ uv (zz B0)) b _ _ hs12 (by omega) (by omega) rfl).mono ?_; rintro x w13 ⟨A13, n13, c13, rfl, hs13, hx⟩
  have hbe := hbe.below hx
  have hb13 := hb12.trans (hx.mono hb12.size)
  have hn13 : n13 ≤ 100000 + 10 * 6 := by have h := hs13.blen; have h2 := hs12.blen; rw [List.length_append, h2] at h; have := U6.out; omega
  have e6 := hbe 6 _ rfl
  clear hx hs12 hb12
  go_wp2_with fail
  clear e6
  obtain ⟨w14, c14, hcv, hs14, hx⟩ := bytes_of w13 S
  rw [hcv]
  simp only [Result.andThen, Oper.upon]
  have hs15 := hs13.below hx
  have hb14 := hb13.trans (hx.mono hb13.size)
  clear hs13 hb13 hcv hx hbe
  go_wp2_with fail
  refine (refBlob_any A13 (some ⟨w13.heap.size, 0, none⟩) n13 c13 S.length c14 ((((((l ++ uv K) ++ uv a) ++ uv nn) ++ uv p) ++ uv (zz B0)) ++ uv b) S _ hs15 hs14 (by omega) (by omega)).mono ?_; rintro x w16 ⟨A16, n16, c16, rfl, hs16, hx⟩
  go_wp2_with fail
  go_ret2
  refine ⟨A16, n16, c16, rfl, ?_, hb14.trans (hx.mono hb14.size)⟩
  rw [HP.out]
  simpa [List.append_assoc] using hs16
end Go.Proofs.Ytphjmbhlokkdiaa
