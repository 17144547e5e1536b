import Derived.Test.YtbnifagmbhiblaaLawHelp
namespace Go.Proofs.Ytbnifagmbhiblaa
open Go.RowKit

theorem wf_u64 {a : Int} (h : (Lit.int .u64 a).wf = true) : 0 ≤ a ∧ a < 18446744073709551616 := by
  simp [Lit.wf, IntKind.min, IntKind.max, IntKind.signed, IntKind.bits] at h; omega

set_option maxRecDepth 100000 in
set_option maxHeartbeats 2000000 in
theorem walk_grow (n m : Nat) (hn : n < 18446744073709551616) (hm : m < 18446744073709551616) (w : World) :
    Calls Try.prog 4 #[.int .u64 (n : Int), .int .u64 (m : Int)] w fun e w' => e = .returned (.bool true) ∧ Below w.heap.size w w' := by
  have hsame : (uv (min n m) == uv (max n m)) = ((n : Int) == (m : Int)) := by
    by_cases h : n = m
    · subst h; simp
    · have h1 : ¬ uv (min n m) = uv (max n m) := fun e => by have := uv_inj.1 e; omega
      have h2 : ((n : Int) == (m : Int)) = false := by simp; omega
      rw [h2]; simp [h1]
  go_enter Try.func4, Try.ntmps4
  go_wp2_with fail
  refine (uint_nil (min n m) _ _ (by omega) (by omega)).mono ?_; rintro e w1 ⟨v1, rfl, hb1, A1, n1, c1, rfl, hs1⟩
  go_wp2_with fail
  refine (uint_nil (max n m) _ _ (by omega) (by omega)).mono ?_; rintro e w2 ⟨v2, rfl, hn2, A2, n2, c2, rfl, hs2⟩
  have hb2 := hb1.trans (hn2.mono hb1.size)
  have hc1 := run_str (hs1.below hn2)
  have hc2 := run_str hs2
  have hl1 := hs1.blen
  have hl2 := hs2.blen
  have hle : n1 ≤ n2 := by rw [← hl1, ← hl2]; exact uv_len_mono (by omega)
  have hp : 0 < n1 := by rw [← hl1]; exact uv_pos _
  have Hl2 := Lib.hid hl2
  clear hs1 hl1 hl2 hn2 hb1 hs2
  have hp1 : ((n1 : Int) == 0) = false := by simp; omega
  have hp2 : decide (n2 < n1) = false := by simp; omega
  by_cases htop : n = 18446744073709551615
  · subst htop
    have hl10 : n2 = 10 := by
      rw [← Hl2.out, show max 18446744073709551615 m = 18446744073709551615 by omega]
      have h1 := uv_len_ge 9 18446744073709551615 (by decide)
      have h2 := uv_len_ten 18446744073709551615 (by omega)
      omega
    subst hl10
    go_wp2_with (go_at_call 21; refine (awake_any _).mono ?_; rintro e w3 ⟨rfl, hn3⟩)
    go_ret
    exact ⟨rfl, hb2.trans (hn3.mono hb2.size)⟩
  · have hlt : n < 18446744073709551615 := by omega
    have htop' : ((n : Int) == 18446744073709551615) = false := by simp; omega
    clear htop
    go_wp2_with fail
    refine (uint_nil n _ _ (by omega) rfl).mono ?_; rintro e w3 ⟨v3, rfl, hn3, A3, n3, c3, rfl, hs3⟩
    have hb3 := hb2.trans (hn3.mono hb2.size)
    clear hc1 hc2 hsame
    go_wp2_with fail
    refine (uint_nil (n + 1) _ _ (by omega) (by omega)).mono ?_; rintro e w4 ⟨v4, rfl, hn4, A4, n4, c4, rfl, hs4⟩
    have hb4 := hb3.trans (hn4.mono hb3.size)
    have hs3' := hs3.below hn4
    have hl3 := hs3.blen
    have hl4 := hs4.blen
    have hp3 : 0 < n3 := by rw [← hl3]; exact uv_pos _
    have hten : n3 ≤ 10 := by rw [← hl3]; exact uv_len_ten _ (by omega)
    obtain ⟨x, hx⟩ := get_some (uv n) (n3 - 1) (by omega)
    obtain ⟨ad, rfl, hcl⟩ := hs3'.byteAt hx
    have hby : ∀ k y, (uv n)[k]? = some y → w4.cell? (ad.add k) = some (.int .u8 (y.toNat : Int)) := fun k y hy => by
      obtain ⟨a, h1, h2⟩ := hs3'.byteAt hy; cases h1; exact h2
    have Hby := Lib.hid hby
    have Hl3 := Lib.hid hl3
    have Hl4 := Lib.hid hl4
    have Hx := Lib.hid hx
    have hcut := cutb_to .i64 (some ad) n3 c3 (n3 - 1) ((n3 : Int) - 1) (by omega) (by have := hs3.le; omega)
    clear hn3 hn4 hb2 hb3 hs3 hs4 hs3' hl3 hl4 hx hby
    go_wp2
    go_loop [9, 67] (fun f i => ∃ (k : Nat) (b : Bool), k ≤ n3 - 1 ∧ i = .int .i64 k ∧ f = .bool b ∧ (b = true ↔ (x = 127 ∧ ∀ j, j < k → (uv n)[j]? = some 255))) (fun _ i => n3 - 1 - (intOf i).toNat)
    case atStart =>
      refine ⟨0, _, by omega, rfl, rfl, ?_⟩
      constructor
      · intro h
        have h1 : (x.toNat : Int) = 127 := by simpa using h
        exact ⟨UInt8.toNat_inj.1 (by rw [show (127 : UInt8).toNat = 127 from rfl]; omega), fun j hj => by omega⟩
      · intro h
        rw [h.1]; rfl
    case round =>
      obtain ⟨k, b, hk, rfl, rfl, hb⟩ := hrel
      have Hb := Lib.hid hb
      clear hb
      by_cases hlt3 : k < n3 - 1
      · obtain ⟨y, hy⟩ := get_some (uv n) k (by have := Hl3.out; omega)
        have hcy := Hby.out k y hy
        have Hy := Lib.hid hy
        clear hy hcl
        by_cases hbt : b = true
        · subst hbt
          go_wp2
          go_round
          case rel =>
            refine ⟨k + 1, _, by omega, by go_num, rfl, ?_⟩
            constructor
            · intro h
              have h1 : (y.toNat : Int) = 255 := by simpa using h
              have hy255 : y = 255 := UInt8.toNat_inj.1 (by rw [show (255 : UInt8).toNat = 255 from rfl]; omega)
              obtain ⟨hx1, h2⟩ := Hb.out.1 rfl
              refine ⟨hx1, fun j hj => ?_⟩
              by_cases hjk : j < k
              · exact h2 j hjk
              · obtain rfl : j = k := by omega
                rw [Hy.out, hy255]
            · intro h
              have h1 := h.2 k (by omega)
              rw [Hy.out] at h1
              cases h1; rfl
          case measure => simp [intOf]; omega
        · have hbf : b = false := by simpa using hbt
          subst hbf
          go_wp2
          go_round
          case rel =>
            refine ⟨k + 1, false, by omega, by go_num, rfl, ?_⟩
            constructor
            · intro h; cases h
            · intro h
              exact Hb.out.2 ⟨h.1, fun j hj => h.2 j (by omega)⟩
          case measure => simp [intOf]; omega
      · have hk' : k = n3 - 1 := by omega
        have hfull : b = true ↔ n + 1 = 128 ^ (uv n).length := by
          rw [Hb.out, ← uv_full, Hl3.out, Hx.out]
          constructor
          · intro h; exact ⟨by rw [h.1], fun j hj => h.2 j (by omega)⟩
          · intro h; exact ⟨by simpa using h.1, fun j hj => h.2 j (by omega)⟩
        by_cases hbt : b = true
        · have h4 : n4 = n3 + 1 := by rw [← Hl4.out, ← Hl3.out]; exact uv_next_full n (hfull.1 hbt)
          clear hfull hk'
          subst hbt; subst h4
          go_wp2_with (go_at_call 21; refine (awake_any _).mono ?_; rintro e w5 ⟨rfl, hn5⟩)
          go_ret
          exact ⟨rfl, hb4.trans (hn5.mono hb4.size)⟩
        · have h4 : n4 = n3 := by rw [← Hl4.out, ← Hl3.out]; exact uv_next_not n (fun h => hbt (hfull.2 h))
          have hbf : b = false := by simpa using hbt
          clear hfull hk' hbt
          subst hbf; subst h4
          have hne : ((n4 : Int) == (n4 : Int) + 1) = false := by simp; omega
          go_wp2_with (go_at_call 21; refine (awake_any _).mono ?_; rintro e w5 ⟨rfl, hn5⟩)
          go_ret
          exact ⟨rfl, hb4.trans (hn5.mono hb4.size)⟩

theorem walk_bytesGrow (a0 a1 : Int) (w0 : (Lit.int .u64 a0).wf = true) (w1 : (Lit.int .u64 a1).wf = true) (w : World) :
    Calls Try.prog 4 #[.int .u64 a0, .int .u64 a1] w fun e w' => e = .returned (.bool true) ∧ Below w.heap.size w w' := by
  obtain ⟨n, rfl⟩ := Int.eq_ofNat_of_zero_le (wf_u64 w0).1
  obtain ⟨m, rfl⟩ := Int.eq_ofNat_of_zero_le (wf_u64 w1).1
  exact walk_grow n m (by have := (wf_u64 w0).2; omega) (by have := (wf_u64 w1).2; omega) w
end Go.Proofs.Ytbnifagmbhiblaa
