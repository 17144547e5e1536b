import Derived.Test.YtemegkapmgcffaaDkQ
/- The disk: left (what a crash leaves of a file). -/
namespace Go.Proofs.Ytemegkapmgcffaa
open Go.RowKit
set_option linter.unusedSimpArgs false
set_option linter.unusedVariables false

theorem neg_and63 (e : Nat) (he : e ≤ 1000000000000) : bits .and .i64 (-(e : Int)) 63 = (((64 - e % 64) % 64 : Nat) : Int) := by
  have h1 : ∀ m : Nat, m &&& 63 = m % 64 := fun m => Nat.and_two_pow_sub_one_eq_mod m 6
  have hb : IntKind.i64.bits = 64 := rfl
  simp only [bits, BitVec.toNat_and, BitVec.toNat_ofInt, hb]
  have h2 : ((63 : Int) % ((2 ^ 64 : Nat) : Int)).toNat = 63 := by decide
  rw [h2, h1, IntKind.wrap_i64]
  omega
theorem sl_takeF {w : World} {A : Option Addr} {n c m : Nat} {l : List UInt8} (h : Sl w 1 A n c (bytesV l)) (hm : m ≤ n) : Sl w 1 A m c (bytesV (l.take m)) := by
  have h2 : bytesV (l.take m) = (bytesV l).take m := by unfold bytesV; rw [List.map_take]
  refine ⟨fun j u hj => ?_, ?_, by have := h.le; omega, fun ha => ⟨by have := (h.none ha).1; omega, (h.none ha).2⟩⟩
  · rw [h2, List.getElem?_take] at hj
    split at hj
    · exact h.cells j u hj
    · cases hj
  · rw [h2, List.length_take, h.len]; omega
theorem ownBlock_ge {base size n c : Nat} {e : TypeId} {w : World} {A : Option Addr} {cs : List Value} (h : Own base e size w A n c cs) {q : Nat} (hq : (Value.slice A n c).ownBlock = some q) : base ≤ q := by
  cases A with
  | none => simp [Value.ownBlock] at hq
  | some a =>
    simp [Value.ownBlock] at hq
    have := (own_lt h a rfl).1
    omega
theorem run_min3 (w : World) (ts : Array TypeId) (t : TypeId) (k : IntKind) (x y z : Int) :
    (Builtin.min_ ts t #[.int k x, .int k y, .int k z]).run Try.prog w = .ok (.int k (min x (min y z))) w := by
  have e1 : ∀ a b : Int, (if decide (b < a) = true then Value.int k b else Value.int k a) = Value.int k (min a b) := by
    intro a b
    rw [Int.min_def]
    split <;> split <;> first | rfl | (simp at *; omega)
  have e2 : min x (min y z) = min (min x y) z := by omega
  rw [e2]
  simp only [Int.min_def]
  simp [Builtin.min_, Builtin.min2]
  split <;> split <;> (try split) <;> first | rfl | (simp at *; omega)
theorem box_cells3 (w : World) (a b d : Value) (t : TypeId) : (w.alloc (.cells #[a, b, d] t)).cell? ⟨w.heap.size, 0, none⟩ = some a ∧ (w.alloc (.cells #[a, b, d] t)).cell? ⟨w.heap.size, 1, none⟩ = some b ∧ (w.alloc (.cells #[a, b, d] t)).cell? ⟨w.heap.size, 2, none⟩ = some d := by
  have h := heap_alloc_new w (.cells #[a, b, d] t)
  refine ⟨?_, ?_, ?_⟩ <;> (unfold World.cell?; simp only [h]; rfl)
set_option maxRecDepth 100000 in
set_option maxHeartbeats 4000000 in
theorem left_any (f : Fl) (A : Option Addr) (c : Nat) (keep tear : Nat) (w : World) (hs : Sl w 1 A f.b.length c (bytesV f.b)) (hl : f.b.length ≤ 16777216) (hsf : f.safe ≤ f.b.length) (hk : (keep : Int) ≤ 9223372036854775807) (ht : (tear : Int) ≤ 9223372036854775807) :
    Calls Try.prog 94 #[.agg #[.string (bstr f.nm), .slice A f.b.length c, .int .i64 f.safe], .int .i64 keep, .int .i64 tear] w fun x w' => ∃ A' c', x = .returned (.agg #[.string (bstr f.nm), .slice A' (leftF f keep tear).b.length c', .int .i64 (leftF f keep tear).safe]) ∧ Own w.heap.size 5 1 w' A' (leftF f keep tear).b.length c' (bytesV (leftF f keep tear).b) ∧ Below w.heap.size w w' := by
  obtain ⟨e, hee⟩ : ∃ e, e = f.safe + min keep (f.b.length - f.safe) := ⟨_, rfl⟩
  have hen : e ≤ f.b.length := by omega
  have hme : (f.safe : Int) + min (keep : Int) ((f.b.length : Int) - (f.safe : Int)) = (e : Int) := by omega
  have hw1 : IntKind.i64.wrap ((f.b.length : Int) - (f.safe : Int)) = (f.b.length : Int) - (f.safe : Int) := by rw [IntKind.wrap_i64]; omega
  have hw2 : IntKind.i64.wrap ((f.safe : Int) + min (keep : Int) ((f.b.length : Int) - (f.safe : Int))) = (e : Int) := by rw [IntKind.wrap_i64]; omega
  have hw3 : IntKind.i64.wrap (-(e : Int)) = -(e : Int) := by rw [IntKind.wrap_i64]; omega
  obtain ⟨q, hq⟩ : ∃ q, q = (64 - e % 64) % 64 := ⟨_, rfl⟩
  have hbt := neg_and63 e (by omega)
  rw [← hq] at hbt
  have Hee := Lib.hid hee
  have Hq := Lib.hid hq
  have hk2 : min (tear : Int) (min (q : Int) ((f.b.length : Int) - (e : Int))) = ((min tear (min q (f.b.length - e)) : Nat) : Int) := by omega
  clear hee hq
  go_enter Try.func94, Try.ntmps94
  have hec : (0 : Int) ≤ (e : Int) ∧ (e : Int) ≤ (c : Int) := by have := hs.le; omega
  have He := Lib.hid hen
  obtain ⟨kk, hkk⟩ : ∃ kk, kk = min tear (min q (f.b.length - e)) := ⟨_, rfl⟩
  rw [← hkk] at hk2
  have Hkk := Lib.hid hkk
  have hkl : e + kk ≤ 16777216 := by omega
  clear hkk
  go_wp2_with fail
  have hb1 := below_alloc1 w (.cells #[.string (bstr f.nm), .slice A f.b.length c, .int .i64 f.safe] 117)
  have hbx := box_cells3 w (.string (bstr f.nm)) (.slice A f.b.length c) (.int .i64 f.safe) 117
  obtain ⟨W1, hW1⟩ : ∃ W1, W1 = w.alloc (.cells #[.string (bstr f.nm), .slice A f.b.length c, .int .i64 f.safe] 117) := ⟨_, rfl⟩
  have hs1 : W1.heap.size = w.heap.size + 1 := by rw [hW1]; simp
  rw [← hW1] at hb1 hbx
  rw [← hW1]
  have hb2 := below_alloc1 W1 (.cells #[.string { data := #[] }, .slice none 0 0, .int .i64 0] 117)
  have hown := new_own W1 [.string { data := #[] }, .slice none 0 0, .int .i64 0] 117 3 rfl (by unfold maxLen; omega)
  obtain ⟨W2, hW2⟩ : ∃ W2, W2 = W1.alloc (.cells #[.string { data := #[] }, .slice none 0 0, .int .i64 0] 117) := ⟨_, rfl⟩
  have hT : (W1.alloc (.cells [Value.string { data := #[] }, .slice none 0 0, .int .i64 0].toArray 117)) = W2 := hW2.symm
  rw [hT] at hown
  rw [← hW2] at hb2
  rw [← hW2]
  refine (clone_such (B := W2.heap.size) (Nat.le_refl _) ⟨(sl_takeF (hs.below (hb1.trans (hb2.mono hb1.size))) He.out), by omega⟩).mono ?_
  rintro x w3 ⟨v, rfl, hb3, hcl⟩
  obtain ⟨A3, c3, rfl, hown3⟩ := isCl_elim hcl
  have Hb2 := Lib.hid (hb1.trans (hb2.mono hb1.size))
  have Hown := Lib.hid hown
  have Hbx := Lib.hid (cellB hb2 hbx.1)
  have hx1 := cellB hb3 (cellB hb2 hbx.2.1)
  have hw4 : IntKind.i64.wrap ((f.b.length : Int) - (e : Int)) = (f.b.length : Int) - (e : Int) := by rw [IntKind.wrap_i64]; omega
  have Hs1 := Lib.hid hs1
  have Hs2 := Lib.hid (show W2.heap.size = W1.heap.size + 1 by rw [hW2]; simp)
  have Hb3 := Lib.hid hb3
  have Hown3 := Lib.hid hown3
  obtain ⟨i0, hi, hz0, hz1, hz2⟩ := info_parts infoByteC
  have hm3 : ∀ ts t W, (Builtin.min_ ts t #[.int .i64 (tear : Int), .int .i64 (q : Int), .int .i64 ((f.b.length : Int) - (e : Int))]).run Try.prog W = .ok (.int .i64 (kk : Int)) W := fun ts t W => by rw [run_min3, hk2]
  clear hb1 hb2 hb3 hown hown3 hcl hbx hs1 hW1 hW2 hT
  go_wp2_with fail
  go_loopw [9, 37] (fun s9 s37 wx => ∃ (j : Nat) (A9 : Option Addr) (c9 : Nat), j ≤ kk ∧ s9 = .slice A9 (e + j) c9 ∧ s37 = .int .i64 (j : Int) ∧ Hid (Own W2.heap.size 5 1 wx A9 (e + j) c9 (bytesV (f.b.take e ++ List.replicate j 0))) ∧ Hid (Below W2.heap.size W2 wx)) (fun _ iv _ => kk - (intOf iv).toNat)
  case atStart => exact ⟨0, A3, c3, by omega, rfl, rfl, Lib.hid (by simpa using Hown3.out), Hb3⟩
  case round =>
    obtain ⟨j, A9, c9, hj, rfl, rfl, HO, HB⟩ := hrel
    by_cases h1 : (j : Int) < (kk : Int)
    · have hwj : IntKind.i64.wrap ((j : Int) + 1) = (j : Int) + 1 := by rw [IntKind.wrap_i64]; omega
      go_wp2_with (at_builtin; refine wpList_append_own _ rfl _ _ 22 rfl W2.heap.size 5 i0 (.int .u8 0) 1 1 Try.underlying22 hi hz0 hz1 hz2 rfl (by decide) _ (e + j) _ rfl (HO.out.alloc _) ⟨wr.heap.size, 0, none⟩ 1 1 [.int .u8 0] rfl rfl (cell_one_new _ _ _) (by simp [Value.oneCell']) (by unfold maxLen; omega) (by omega) (by have := HB.out.size; simp; omega) ?_; intro v' w5 hown5 hgrow5 hnil5)
      all_goals
        obtain ⟨A', c', rfl, h2⟩ := ownsRow_sliceI hown5
        have hl9 : bytesV (f.b.take e ++ List.replicate j 0) ++ [.int .u8 0] = bytesV (f.b.take e ++ List.replicate (j + 1) 0) := by
          rw [List.replicate_succ', ← List.append_assoc]
          simp [bytesV]
          rfl
        rw [hl9] at h2
        refine ⟨⟨j + 1, A', c', by omega, rfl, rfl, Lib.hid h2, Lib.hid ((HB.out.trans ((below_alloc1 _ _).mono HB.out.size)).grown hgrow5 (Nat.le_trans HB.out.size (below_alloc1 _ _).size) (fun q hq => (ownBlock_ge HO.out hq)))⟩, by simp [intOf]; omega⟩
    · obtain rfl : j = kk := by omega
      have z0 := cellB HB.out Hbx.out
      have ho := Hown.out.below HB.out
      have k0 := World.ownsRow.cellAt ho 0 (by omega)
      have k1 := World.ownsRow.cellAt ho 1 (by omega)
      have k2 := World.ownsRow.cellAt ho 2 (by omega)
      simp only [List.getElem?_cons_zero, List.getElem?_cons_succ] at k0 k1 k2
      have f0 := World.ownsRow.frozenAt ho 0
      have f1 := World.ownsRow.frozenAt ho 1
      have f2 := World.ownsRow.frozenAt ho 2
      rw [Hs1.out] at ho k0 k1 k2 f0 f1 f2
      have st := stored3 ho (.string (bstr f.nm)) (.slice A9 (e + j) c9) (.int .i64 ((e : Int) + (j : Int)))
      have Hst := Lib.hid st
      clear st ho
      have Hej := Lib.hid (show leftF f (keep : Int) (tear : Int) = ⟨f.nm, f.b.take e ++ List.replicate j 0, e + j⟩ by
        unfold leftF
        simp only [Int.toNat_natCast]
        rw [← Hee.out, ← Hq.out, ← Hkk.out])
      have HlenL := Lib.hid (show (f.b.take e ++ List.replicate j 0).length = e + j by have := He.out; simp; omega)
      go_wp2_with fail
      refine bodyPost_ret (results_cellD rfl _ _ _ ⟨w.heap.size + 1, 0, none⟩ rfl _ (load_ownD Hst.out.1)) rfl ?_
      rw [Hej.out]
      simp only [HlenL.out]
      refine ⟨A9, c9, by simp, ?_, ?_⟩
      · refine Own.lower (own_same HO.out (fun a ha => Hst.out.2.block _ (own_lt HO.out a ha).2 (fun e2 => ?_))) (Hb2.out.size)
        have := (own_lt HO.out a ha).1
        have := Option.some.inj e2
        have := Hs1.out
        have := Hs2.out
        omega
      · exact (Hb2.out.trans (HB.out.mono Hb2.out.size)).grown Hst.out.2 (by have := HB.out.size; have := Hb2.out.size; omega) (fun k hk => by cases hk; omega)
end Go.Proofs.Ytemegkapmgcffaa
