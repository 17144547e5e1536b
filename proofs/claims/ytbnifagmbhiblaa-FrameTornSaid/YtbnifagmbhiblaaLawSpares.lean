import Derived.Test.YtbnifagmbhiblaaOwnWalks
import Derived.Deep.CutBlock
import Derived.Deep.DeepCutAuto
namespace Go.Proofs.Ytbnifagmbhiblaa
open Go.RowKit
set_option linter.unusedSimpArgs false
set_option linter.unusedVariables false

theorem own_some {w : World} {base n c : Nat} {A : Option Addr} {l : List Value} (h : w.ownsRow base 5 1 (.slice A n c) n l) (hn : 0 < n) : ∃ g, A = some ⟨g, 0, none⟩ ∧ base ≤ g ∧ g < w.heap.size := by
  rcases h.2 with ⟨hv, h0⟩ | ⟨g, cap, cur, hv, _⟩
  · omega
  · simp only [Value.slice.injEq] at hv
    obtain ⟨rfl, _, rfl⟩ := hv
    exact ⟨g, rfl, h.lt g rfl⟩

set_option maxRecDepth 100000 in
set_option maxHeartbeats 1000000 in
theorem walk_spares (B : Option Addr) (n p : Nat) (b : List UInt8) (w : World) (hs : Sl w 1 B n p (bytesV b)) :
    Calls Try.prog 16 #[.slice B n p] w fun e w' => e = .returned (.bool true) ∧ Below w.heap.size w w' := by
  by_cases h1 : n = 0
  · subst h1
    go_enter Try.func16, Try.ntmps16
    go_wp2_with (go_at_call 47; refine (awake03_any _).mono ?_; rintro e w6 ⟨rfl, hn6⟩)
    go_ret
    exact ⟨rfl, hn6⟩
  have h1b : ((n : Int) == 0) = false := by simp; omega
  by_cases h2 : 300 < n
  · go_enter Try.func16, Try.ntmps16
    go_wp2_with (go_at_call 47; refine (awake03_any _).mono ?_; rintro e w6 ⟨rfl, hn6⟩)
    go_ret
    exact ⟨rfl, hn6⟩
  have Hl := Lib.hid hs.blen
  have hfg : fg (frm b) 0 = (b, (frm b).length, 0) := by
    have := fg_frm [] b [] 0 rfl (by rw [Hl.out]; omega) (by rw [Hl.out]; omega)
    simpa using this
  have Hfg := Lib.hid hfg
  clear hfg
  go_enter Try.func16, Try.ntmps16
  go_wp2_with fail
  refine (put_nil_own _ _ _ b _ hs (by omega) (by omega)).mono ?_; rintro e w1 ⟨A1, n1, c1, rfl, how1, hb1⟩
  have hsb := ownsRow_sl how1
  have hs1 := hs.below hb1
  have hn1 : n1 ≤ 1000 := by
    have h3 := hsb.blen
    rw [frm_len, Hl.out] at h3
    have := uv_len_ten n (by omega)
    omega
  have hn10 : 0 < n1 := by
    have h3 := hsb.blen
    rw [frm_len, Hl.out] at h3
    omega
  go_wp2_with fail
  refine (get_any _ _ _ (frm b) _ _ hsb (by omega)).mono ?_; rintro e w2 ⟨v, rfl, how2, hb2⟩
  rw [Hfg.out] at how2 ⊢
  dsimp only at how2 ⊢
  rw [Hl.out] at how2
  obtain ⟨A2, c2, rfl, hs2, how2⟩ := own_form how2
  obtain ⟨g2, rfl, hg2, hg2l⟩ := own_some how2 (by omega)
  obtain ⟨x, hx⟩ := get_some b 0 (by rw [Hl.out]; omega)
  have hcell : w2.cell? ⟨g2, 0, none⟩ = some (.int .u8 (x.toNat : Int)) := by rw [how2.cellAt 0 (by omega)]; simp [bytesV, byteV, hx]
  have hfro := how2.frozenAt 0
  have Hx := Lib.hid hx
  have hn0 : (0 : Int) < (n : Int) := by omega
  have hst := how2.stored 0 (.int .u8 (Go.bits .xor .u8 (x.toNat : Int) 255))
  have hb3 : Below w1.heap.size w1 (w2.setCell ⟨g2, 0, none⟩ (.int .u8 (Go.bits .xor .u8 (x.toNat : Int) 255))) := hb2.setCell hg2 _
  clear hx hs2 how2 hst
  go_wp2_with fail
  obtain ⟨w3, hw3⟩ : ∃ w3, w3 = w2.setCell ⟨g2, 0, none⟩ (.int .u8 (Go.bits .xor .u8 (x.toNat : Int) 255)) := ⟨_, rfl⟩
  rw [← hw3] at hb3 ⊢
  clear hw3 hcell hfro hb2
  have how3 : Own w.heap.size 5 1 w3 A1 n1 c1 (bytesV (frm b)) := Own.below how1 hb3
  have hsb3 := hsb.below hb3
  have hs3 := hs1.below hb3
  have hbA := hb1.trans (hb3.mono hb1.size)
  refine (get_any _ _ _ (frm b) _ _ hsb3 (by omega)).mono ?_; rintro e w4 ⟨v4, rfl, how4, hb4⟩
  rw [Hfg.out] at how4 ⊢
  dsimp only at how4 ⊢
  rw [Hl.out] at how4
  obtain ⟨A4, c4, rfl, hs4, how4⟩ := own_form how4
  obtain ⟨g4, rfl, hg4, hg4l⟩ := own_some how4 (by omega)
  have how5 : Own w.heap.size 5 1 w4 A1 n1 c1 (bytesV (frm b)) := Own.below how3 hb4
  obtain ⟨g1, rfl, hg1, _⟩ := own_some how5 hn10
  have hg1l : g1 < w3.heap.size := Sl.block_lt hsb3 hn10
  have hs5 := hs3.below hb4
  have hbB := hbA.trans (hb4.mono hbA.size)
  have hbk : ∀ ad, B = some ad → some ad.block ≠ some g1 := by
    intro ad h e
    cases e
    subst h
    have := hs.block_lt (by omega)
    omega
  clear hs hsb hs1 how1 hb1 hb3 how3 hsb3 hs3 how4 hb4 hbA
  go_upto_block 0 with fail
  go_cut [] (fun wx => Sl wx 1 B n p (bytesV b) ∧ Sl wx 1 (some ⟨g4, 0, none⟩) n c4 (bytesV b) ∧ Below w.heap.size w wx)
  case first =>
    go_wp2_with fail
    go_loopw [58] (fun iv wx => ∃ (i : Nat) (bs : List UInt8), i ≤ n1 ∧ iv = .int .i64 (i : Nat) ∧ wx.ownsRow w.heap.size 5 1 (.slice (some ⟨g1, 0, none⟩) n1 c1) n1 (bytesV bs) ∧ Sl wx 1 B n p (bytesV b) ∧ Sl wx 1 (some ⟨g4, 0, none⟩) n c4 (bytesV b) ∧ Below w.heap.size w wx) (fun iv _ => n1 - (intOf iv).toNat)
    case atStart => exact ⟨0, _, by omega, rfl, how5, hs5, hs4, hbB⟩
    case round =>
      obtain ⟨i, bs, hi, rfl, how, hsa, hsy, hbx⟩ := hrel
      clear how5 hs5 hs4 hbB
      by_cases hlt : i < n1
      · have hlen : bs.length = n1 := (ownsRow_sl how).blen
        obtain ⟨y, hy⟩ := get_some bs i (by omega)
        have hcell : wr.cell? ⟨g1, i, none⟩ = some (.int .u8 (y.toNat : Int)) := by rw [how.cellAt i (by omega)]; simp [bytesV, byteV, hy]
        have hfro := how.frozenAt i
        have hst := how.stored i (.int .u8 0)
        have hset : bytesV (bs.set i 0) = (bytesV bs).set i (.int .u8 0) := by rw [bytesV, List.map_set]; rfl
        have Hset := Lib.hid hset
        have hin : (0 : Int) ≤ (i : Int) ∧ (i : Int) < (n1 : Int) := by omega
        clear hy hlen hset
        go_wp2_with fail
        go_roundw
        case rel =>
          refine ⟨i + 1, bs.set i 0, by omega, by go_num, by rw [Hset.out]; exact hst.1, hsa.grown hst.2 hbk, hsy.grown hst.2 (fun ad h => by cases h; simp; omega), hbx.setCell hg1 _⟩
        case measure => simp [intOf]; omega
      · obtain rfl : i = n1 := by omega
        go_wp2_with fail
        go_meet
        exact ⟨hsa, hsy, hbx⟩
  case rest =>
    obtain ⟨hsa, hsy, hbx⟩ := hcut
    generalize wc = w9 at *
    go_wp2_with fail
    refine (sameBytes_lit _ _ _ _ _ _ b b true _ hsy hsa (by simp)).mono ?_; rintro e w8 ⟨rfl, hb8⟩
    have hbC := hbx.trans (hb8.mono hbx.size)
    clear hsa hsy
    go_wp2_with (go_at_call 47; refine (awake03_any _).mono ?_; rintro e w6 ⟨rfl, hn6⟩)
    go_ret
    exact ⟨rfl, hbC.trans (hn6.mono hbC.size)⟩
end Go.Proofs.Ytbnifagmbhiblaa
