import Derived.Test.YtbnifagmbhiblaaByteWalksE
import Derived.Test.YtbnifagmbhiblaaRegion
import Derived.Laws.BytesArg
import Derived.Lib.SlBytesConst
namespace Go.Proofs.Ytbnifagmbhiblaa
open Go.RowKit
set_option linter.unusedSimpArgs false
set_option linter.unusedVariables false

def bstr (l : List UInt8) : ByteArray := ⟨l.toArray⟩
theorem bstr_inj {l m : List UInt8} : bstr l = bstr m ↔ l = m := by
  constructor
  · intro h
    have := congrArg (fun b : ByteArray => b.data.toList) h
    simpa [bstr] using this
  · intro h; rw [h]
@[go_sem] theorem bstr_toList (l : List UInt8) : (bstr l).toList = l := by rw [ByteArray.toList_eq]; rfl
theorem strOfNums_bytes (l : List UInt8) : strOfNums (l.map fun b => (b.toNat : Int)) = bstr l := by
  unfold strOfNums bstr
  congr 1
  simp [List.map_map, Function.comp_def]

/-- string(bytes) -/
theorem run_str {w : World} {A : Option Addr} {n c : Nat} {l : List UInt8} (hs : Sl w 1 A n c (bytesV l)) :
    (convert 26 9 (.slice A n c)).run Try.prog w = .ok (.string (bstr l)) w := by
  cases A with
  | none =>
    obtain ⟨rfl, rfl⟩ := hs.none rfl
    have hl : l = [] := List.eq_nil_of_length_eq_zero hs.blen
    subst hl
    exact run_convert_bytes_nil w 26 5 Try.underlying26 Try.underlying5 0 0 9 Try.underlying9
  | some ad =>
    have hl := run_loadCells_list (P := Try.prog) w ad (bytesV l) (fun j v hj => by obtain ⟨a, h1, h2⟩ := hs.cells j v hj; cases h1; exact h2)
    have hlen := hs.blen
    rw [bytesV_length, hlen] at hl
    have hm : bytesV l = (l.map fun b => (b.toNat : Int)).map (Value.int .u8) := by simp [bytesV, byteV, Function.comp_def]
    rw [hm] at hl
    rw [run_convert_bytes_string w 26 9 5 _ n c Try.underlying26 Try.underlying5 Try.underlying9, run_bytesToString w _ n c _ hl, foldl_push_bytes]
    rw [← strOfNums_bytes]
    simp [strOfNums, ByteArray.empty, ByteArray.emptyWithCapacity]
    rfl

set_option maxRecDepth 100000 in
set_option maxHeartbeats 1000000 in
theorem writes_any (A : Option Addr) (m c : Nat) (n : Nat) (w : World) (hs : Sl w 1 A m c (bytesV (uv n))) (hn : n < 18446744073709551616) (hm : m ≤ 140737488351232) (hg : gu (uv n) 0 = (n, m, 0)) :
    Calls Try.prog 28 #[.int .u64 (n : Int), .slice A m c] w fun e w' => e = .returned (.bool true) ∧ Below w.heap.size w w' := by
  have Hg := Lib.hid hg
  clear hg
  go_enter Try.func28, Try.ntmps28
  go_wp2_with (go_at_call 31; refine (getUint_any _ _ _ (uv n) _ _ hs hm).mono ?_; rintro e w' ⟨rfl, rfl⟩; rw [Hg.out]; dsimp only)
  --@region 28 2 writes.spec
  refine wp_region_run (by kernel_rfl) (by kernel_rfl) ?_
  apply RunL.pure
  · intro vs w hb hd; clear hd; simp only [List.take, putL, Act.put, List.setIfInBounds_toArray, List.set_cons_zero, List.set_cons_succ]; unfold StepOK; go_simp; exact ⟨Below.refl _ _, isV_mk _ _⟩
  refine RunL.such (isB (uv n)) (isB_stable _) ?_ ?_
  · intro vs w hb hd; have d0 : isV _ (vs 0) w := hd 0 (by decide) (by kernel_rfl); unfold isV at d0; clear hd; simp only [List.take, putL, Act.put, List.setIfInBounds_toArray, List.set_cons_zero, List.set_cons_succ]; unfold StepOK; go_simp; refine ⟨Below.refl _ _, (uint_at _ _ _ _ [] n _ _ (App.nil _ _ _ _) (Nat.le_refl _) hn (by omega) rfl).mono ?_⟩; rintro e w1 ⟨A1, n1, c1, rfl, hto⟩; exact ⟨_, rfl, hto.below (Nat.le_refl _), A1, n1, c1, rfl, by simpa using hto.app.sl⟩
  apply RunL.pure
  · intro vs w hb hd; have d1 := hd 1 (by decide) (by kernel_rfl); simp only [TR, Nat.reduceAdd, Nat.reduceSub, List.getD_cons_zero, List.getD_cons_succ] at d1; clear hd; obtain ⟨Aq, nq, cq, eq, hq⟩ := isB_elim d1; have hcv := run_str hq; clear hq d1; simp only [List.take, putL, Act.put, List.setIfInBounds_toArray, List.set_cons_zero, List.set_cons_succ]; unfold StepOK; go_simp; exact ⟨Below.refl _ _, isV_mk _ _⟩
  apply RunL.pure
  · intro vs w hb hd; clear hd; simp only [List.take, putL, Act.put, List.setIfInBounds_toArray, List.set_cons_zero, List.set_cons_succ]; unfold StepOK; go_simp; exact ⟨Below.refl _ _, isV_mk _ _⟩
  apply RunL.pure
  · intro vs w hb hd; have d3 : isV _ (vs 3) w := hd 3 (by decide) (by kernel_rfl); unfold isV at d3; clear hd; have hcv := run_str (hs.below hb); simp only [List.take, putL, Act.put, List.setIfInBounds_toArray, List.set_cons_zero, List.set_cons_succ]; unfold StepOK; go_simp; exact ⟨Below.refl _ _, isV_mk _ _⟩
  apply RunL.pure
  · intro vs w hb hd; have d2 : isV _ (vs 2) w := hd 2 (by decide) (by kernel_rfl); unfold isV at d2; have d4 : isV _ (vs 4) w := hd 4 (by decide) (by kernel_rfl); unfold isV at d4; clear hd; simp only [List.take, putL, Act.put, List.setIfInBounds_toArray, List.set_cons_zero, List.set_cons_succ]; unfold StepOK; go_simp; exact ⟨Below.refl _ _, isV_mk _ _⟩
  apply RunL.pure
  · intro vs w hb hd; have d1 := hd 1 (by decide) (by kernel_rfl); simp only [TR, Nat.reduceAdd, Nat.reduceSub, List.getD_cons_zero, List.getD_cons_succ] at d1; have d5 : isV _ (vs 5) w := hd 5 (by decide) (by kernel_rfl); unfold isV at d5; clear hd; simp only [List.take, putL, Act.put, List.setIfInBounds_toArray, List.set_cons_zero, List.set_cons_succ]; unfold StepOK; go_simp; exact ⟨Below.refl _ _, isV_mk _ _⟩
  apply RunL.pure
  · intro vs w hb hd; have d6 : isV _ (vs 6) w := hd 6 (by decide) (by kernel_rfl); unfold isV at d6; clear hd; simp only [List.take, putL, Act.put, List.setIfInBounds_toArray, List.set_cons_zero, List.set_cons_succ]; unfold StepOK; go_simp; exact ⟨Below.refl _ _, isV_mk _ _⟩
  apply RunL.pure
  · intro vs w hb hd; have d6 : isV _ (vs 6) w := hd 6 (by decide) (by kernel_rfl); unfold isV at d6; have d7 : isV _ (vs 7) w := hd 7 (by decide) (by kernel_rfl); unfold isV at d7; clear hd; simp only [List.take, putL, Act.put, List.setIfInBounds_toArray, List.set_cons_zero, List.set_cons_succ]; unfold StepOK; go_simp; exact ⟨Below.refl _ _, isV_mk _ _⟩
  apply RunL.pure
  · intro vs w hb hd; have d6 : isV _ (vs 6) w := hd 6 (by decide) (by kernel_rfl); unfold isV at d6; have d8 : isV _ (vs 8) w := hd 8 (by decide) (by kernel_rfl); unfold isV at d8; clear hd; simp only [List.take, putL, Act.put, List.setIfInBounds_toArray, List.set_cons_zero, List.set_cons_succ]; unfold StepOK; go_simp; exact ⟨Below.refl _ _, isV_mk _ _⟩
  apply RunL.pure
  · intro vs w hb hd; have d6 : isV _ (vs 6) w := hd 6 (by decide) (by kernel_rfl); unfold isV at d6; have d9 : isV _ (vs 9) w := hd 9 (by decide) (by kernel_rfl); unfold isV at d9; clear hd; simp only [List.take, putL, Act.put, List.setIfInBounds_toArray, List.set_cons_zero, List.set_cons_succ]; unfold StepOK; go_simp; exact ⟨Below.refl _ _, isV_mk _ _⟩
  apply RunL.pure
  · intro vs w hb hd; have d10 : isV _ (vs 10) w := hd 10 (by decide) (by kernel_rfl); unfold isV at d10; clear hd; simp only [List.take, putL, Act.put, List.setIfInBounds_toArray, List.set_cons_zero, List.set_cons_succ]; unfold StepOK; go_simp; exact ⟨Below.refl _ _, isV_mk _ _⟩
  apply RunL.pure
  · intro vs w hb hd; have d10 : isV _ (vs 10) w := hd 10 (by decide) (by kernel_rfl); unfold isV at d10; clear hd; simp only [List.take, putL, Act.put, List.setIfInBounds_toArray, List.set_cons_zero, List.set_cons_succ]; unfold StepOK; go_simp; exact ⟨Below.refl _ _, isV_mk _ _⟩
  apply RunL.pure
  · intro vs w hb hd; have d10 : isV _ (vs 10) w := hd 10 (by decide) (by kernel_rfl); unfold isV at d10; have d11 : isV _ (vs 11) w := hd 11 (by decide) (by kernel_rfl); unfold isV at d11; have d12 : isV _ (vs 12) w := hd 12 (by decide) (by kernel_rfl); unfold isV at d12; clear hd; simp only [List.take, putL, Act.put, List.setIfInBounds_toArray, List.set_cons_zero, List.set_cons_succ]; unfold StepOK; go_simp; exact ⟨Below.refl _ _, isV_mk _ _⟩
  apply RunL.pure
  · intro vs w hb hd; have d10 : isV _ (vs 10) w := hd 10 (by decide) (by kernel_rfl); unfold isV at d10; have d13 : isV _ (vs 13) w := hd 13 (by decide) (by kernel_rfl); unfold isV at d13; clear hd; simp only [List.take, putL, Act.put, List.setIfInBounds_toArray, List.set_cons_zero, List.set_cons_succ]; unfold StepOK; go_simp; exact ⟨Below.refl _ _, isV_mk _ _⟩
  apply RunL.pure
  · intro vs w hb hd; have d10 : isV _ (vs 10) w := hd 10 (by decide) (by kernel_rfl); unfold isV at d10; have d14 : isV _ (vs 14) w := hd 14 (by decide) (by kernel_rfl); unfold isV at d14; clear hd; simp only [List.take, putL, Act.put, List.setIfInBounds_toArray, List.set_cons_zero, List.set_cons_succ]; unfold StepOK; go_simp; exact ⟨Below.refl _ _, isV_mk _ _⟩
  apply RunL.pure
  · intro vs w hb hd; have d15 : isV _ (vs 15) w := hd 15 (by decide) (by kernel_rfl); unfold isV at d15; clear hd; simp only [List.take, putL, Act.put, List.setIfInBounds_toArray, List.set_cons_zero, List.set_cons_succ]; unfold StepOK; go_simp; exact ⟨Below.refl _ _, isV_mk _ _⟩
  apply RunL.pure
  · intro vs w hb hd; have d15 : isV _ (vs 15) w := hd 15 (by decide) (by kernel_rfl); unfold isV at d15; clear hd; simp only [List.take, putL, Act.put, List.setIfInBounds_toArray, List.set_cons_zero, List.set_cons_succ]; unfold StepOK; go_simp; exact ⟨Below.refl _ _, isV_mk _ _⟩
  apply RunL.pure
  · intro vs w hb hd; have d15 : isV _ (vs 15) w := hd 15 (by decide) (by kernel_rfl); unfold isV at d15; have d17 : isV _ (vs 17) w := hd 17 (by decide) (by kernel_rfl); unfold isV at d17; clear hd; simp only [List.take, putL, Act.put, List.setIfInBounds_toArray, List.set_cons_zero, List.set_cons_succ]; unfold StepOK; go_simp; exact ⟨Below.refl _ _, isV_mk _ _⟩
  apply RunL.pure
  · intro vs w hb hd; have d15 : isV _ (vs 15) w := hd 15 (by decide) (by kernel_rfl); unfold isV at d15; have d16 : isV _ (vs 16) w := hd 16 (by decide) (by kernel_rfl); unfold isV at d16; have d18 : isV _ (vs 18) w := hd 18 (by decide) (by kernel_rfl); unfold isV at d18; clear hd; simp only [List.take, putL, Act.put, List.setIfInBounds_toArray, List.set_cons_zero, List.set_cons_succ]; unfold StepOK; go_simp; exact ⟨Below.refl _ _, isV_mk _ _⟩
  apply RunL.pure
  · intro vs w hb hd; have d15 : isV _ (vs 15) w := hd 15 (by decide) (by kernel_rfl); unfold isV at d15; have d19 : isV _ (vs 19) w := hd 19 (by decide) (by kernel_rfl); unfold isV at d19; clear hd; simp only [List.take, putL, Act.put, List.setIfInBounds_toArray, List.set_cons_zero, List.set_cons_succ]; unfold StepOK; go_simp; exact ⟨Below.refl _ _, isV_mk _ _⟩
  apply RunL.pure
  · intro vs w hb hd; have d0 : isV _ (vs 0) w := hd 0 (by decide) (by kernel_rfl); unfold isV at d0; have d1 := hd 1 (by decide) (by kernel_rfl); simp only [TR, Nat.reduceAdd, Nat.reduceSub, List.getD_cons_zero, List.getD_cons_succ] at d1; have d2 : isV _ (vs 2) w := hd 2 (by decide) (by kernel_rfl); unfold isV at d2; have d3 : isV _ (vs 3) w := hd 3 (by decide) (by kernel_rfl); unfold isV at d3; have d4 : isV _ (vs 4) w := hd 4 (by decide) (by kernel_rfl); unfold isV at d4; have d5 : isV _ (vs 5) w := hd 5 (by decide) (by kernel_rfl); unfold isV at d5; have d6 : isV _ (vs 6) w := hd 6 (by decide) (by kernel_rfl); unfold isV at d6; have d7 : isV _ (vs 7) w := hd 7 (by decide) (by kernel_rfl); unfold isV at d7; have d8 : isV _ (vs 8) w := hd 8 (by decide) (by kernel_rfl); unfold isV at d8; have d9 : isV _ (vs 9) w := hd 9 (by decide) (by kernel_rfl); unfold isV at d9; have d10 : isV _ (vs 10) w := hd 10 (by decide) (by kernel_rfl); unfold isV at d10; have d11 : isV _ (vs 11) w := hd 11 (by decide) (by kernel_rfl); unfold isV at d11; have d12 : isV _ (vs 12) w := hd 12 (by decide) (by kernel_rfl); unfold isV at d12; have d13 : isV _ (vs 13) w := hd 13 (by decide) (by kernel_rfl); unfold isV at d13; have d14 : isV _ (vs 14) w := hd 14 (by decide) (by kernel_rfl); unfold isV at d14; have d15 : isV _ (vs 15) w := hd 15 (by decide) (by kernel_rfl); unfold isV at d15; have d16 : isV _ (vs 16) w := hd 16 (by decide) (by kernel_rfl); unfold isV at d16; have d17 : isV _ (vs 17) w := hd 17 (by decide) (by kernel_rfl); unfold isV at d17; have d18 : isV _ (vs 18) w := hd 18 (by decide) (by kernel_rfl); unfold isV at d18; have d19 : isV _ (vs 19) w := hd 19 (by decide) (by kernel_rfl); unfold isV at d19; have d20 : isV _ (vs 20) w := hd 20 (by decide) (by kernel_rfl); unfold isV at d20; clear hd; simp only [List.take, putL, Act.put, List.setIfInBounds_toArray, List.set_cons_zero, List.set_cons_succ]; unfold StepOK; go_simp; exact ⟨Below.refl _ _, isV_mk _ _⟩
  intro vs w1 hb hd
  have e0 : isV _ (vs 0) w1 := hd 0 (by decide)
  have e1 := hd 1 (by decide); simp only [TR, Nat.reduceAdd, Nat.reduceSub, List.getD_cons_zero, List.getD_cons_succ] at e1
  have e2 : isV _ (vs 2) w1 := hd 2 (by decide)
  have e3 : isV _ (vs 3) w1 := hd 3 (by decide)
  have e4 : isV _ (vs 4) w1 := hd 4 (by decide)
  have e5 : isV _ (vs 5) w1 := hd 5 (by decide)
  have e6 : isV _ (vs 6) w1 := hd 6 (by decide)
  have e7 : isV _ (vs 7) w1 := hd 7 (by decide)
  have e8 : isV _ (vs 8) w1 := hd 8 (by decide)
  have e9 : isV _ (vs 9) w1 := hd 9 (by decide)
  have e10 : isV _ (vs 10) w1 := hd 10 (by decide)
  have e11 : isV _ (vs 11) w1 := hd 11 (by decide)
  have e12 : isV _ (vs 12) w1 := hd 12 (by decide)
  have e13 : isV _ (vs 13) w1 := hd 13 (by decide)
  have e14 : isV _ (vs 14) w1 := hd 14 (by decide)
  have e15 : isV _ (vs 15) w1 := hd 15 (by decide)
  have e16 : isV _ (vs 16) w1 := hd 16 (by decide)
  have e17 : isV _ (vs 17) w1 := hd 17 (by decide)
  have e18 : isV _ (vs 18) w1 := hd 18 (by decide)
  have e19 : isV _ (vs 19) w1 := hd 19 (by decide)
  have e20 : isV _ (vs 20) w1 := hd 20 (by decide)
  have e21 : isV _ (vs 21) w1 := hd 21 (by decide)
  clear hd
  unfold isV at e0 e2 e3 e4 e5 e6 e7 e8 e9 e10 e11 e12 e13 e14 e15 e16 e17 e18 e19 e20 e21
  simp only [putL, Act.put, List.setIfInBounds_toArray, List.set_cons_zero, List.set_cons_succ, e0, e2, e3, e4, e5, e6, e7, e8, e9, e10, e11, e12, e13, e14, e15, e16, e17, e18, e19, e20, e21]
  clear e0 e2 e3 e4 e5 e6 e7 e8 e9 e10 e11 e12 e13 e14 e15 e16 e17 e18 e19 e20 e21
  --@end
  go_wp2
  go_ret
  exact ⟨rfl, hb⟩

theorem uint_nil (n : Nat) (N : Int) (w : World) (hn : n < 18446744073709551616) (hN : N = (n : Int)) :
    Calls Try.prog 18 #[.slice none 0 0, .int .u64 N] w fun e w' => ∃ v, e = .returned v ∧ Below w.heap.size w w' ∧ isB (uv n) v w' :=
  (uint_at _ _ _ _ [] n N _ (App.nil w.heap.size _ _ _) (Nat.le_refl _) hn (by omega) hN).mono fun e w1 ⟨A1, n1, c1, he, hto⟩ =>
    ⟨_, he, hto.below (Nat.le_refl _), A1, n1, c1, rfl, by simpa using hto.app.sl⟩
theorem int_nil (i : Int) (w : World) (h1 : -9223372036854775808 ≤ i) (h2 : i ≤ 9223372036854775807) :
    Calls Try.prog 19 #[.slice none 0 0, .int .i64 i] w fun e w' => ∃ v, e = .returned v ∧ Below w.heap.size w w' ∧ isB (uv (zz i)) v w' :=
  (int_any w.heap.size _ _ _ [] i _ (App.nil _ _ _ _) (Nat.le_refl _) h1 h2 (by omega)).mono fun e w1 ⟨A1, n1, c1, he, hto⟩ =>
    ⟨_, he, hto.below (Nat.le_refl _), A1, n1, c1, rfl, by simpa using hto.app.sl⟩

set_option maxRecDepth 100000 in
set_option maxHeartbeats 1000000 in
theorem signed_any (A : Option Addr) (m c : Nat) (i : Int) (w : World) (hs : Sl w 1 A m c (bytesV (uv (zz i)))) (h1 : -9223372036854775808 ≤ i) (h2 : i ≤ 9223372036854775807) (hm : m ≤ 140737488351232) (hg : gi (uv (zz i)) 0 = (i, m, 0)) :
    Calls Try.prog 27 #[.int .i64 i, .slice A m c] w fun e w' => e = .returned (.bool true) ∧ Below w.heap.size w w' := by
  have Hg := Lib.hid hg
  clear hg
  go_enter Try.func27, Try.ntmps27
  go_wp2_with (go_at_call 17; refine (getInt_any _ _ _ (uv (zz i)) _ _ hs hm).mono ?_; rintro e w' ⟨rfl, rfl⟩; rw [Hg.out]; dsimp only)
  --@region 27 2 signed.spec
  refine wp_region_run (by kernel_rfl) (by kernel_rfl) ?_
  apply RunL.pure
  · intro vs w hb hd; clear hd; simp only [List.take, putL, Act.put, List.setIfInBounds_toArray, List.set_cons_zero, List.set_cons_succ]; unfold StepOK; go_simp; exact ⟨Below.refl _ _, isV_mk _ _⟩
  refine RunL.such (isB (uv (zz i))) (isB_stable _) ?_ ?_
  · intro vs w hb hd; have d0 : isV _ (vs 0) w := hd 0 (by decide) (by kernel_rfl); unfold isV at d0; clear hd; simp only [List.take, putL, Act.put, List.setIfInBounds_toArray, List.set_cons_zero, List.set_cons_succ]; unfold StepOK; go_simp; exact ⟨Below.refl _ _, int_nil i _ h1 h2⟩
  apply RunL.pure
  · intro vs w hb hd; have d1 := hd 1 (by decide) (by kernel_rfl); simp only [TR, Nat.reduceAdd, Nat.reduceSub, List.getD_cons_zero, List.getD_cons_succ] at d1; clear hd; obtain ⟨Aq, nq, cq, eq, hq⟩ := isB_elim d1; have hcv := run_str hq; clear hq d1; simp only [List.take, putL, Act.put, List.setIfInBounds_toArray, List.set_cons_zero, List.set_cons_succ]; unfold StepOK; go_simp; exact ⟨Below.refl _ _, isV_mk _ _⟩
  apply RunL.pure
  · intro vs w hb hd; clear hd; simp only [List.take, putL, Act.put, List.setIfInBounds_toArray, List.set_cons_zero, List.set_cons_succ]; unfold StepOK; go_simp; exact ⟨Below.refl _ _, isV_mk _ _⟩
  apply RunL.pure
  · intro vs w hb hd; have d3 : isV _ (vs 3) w := hd 3 (by decide) (by kernel_rfl); unfold isV at d3; clear hd; have hcv := run_str (hs.below hb); simp only [List.take, putL, Act.put, List.setIfInBounds_toArray, List.set_cons_zero, List.set_cons_succ]; unfold StepOK; go_simp; exact ⟨Below.refl _ _, isV_mk _ _⟩
  apply RunL.pure
  · intro vs w hb hd; have d2 : isV _ (vs 2) w := hd 2 (by decide) (by kernel_rfl); unfold isV at d2; have d4 : isV _ (vs 4) w := hd 4 (by decide) (by kernel_rfl); unfold isV at d4; clear hd; simp only [List.take, putL, Act.put, List.setIfInBounds_toArray, List.set_cons_zero, List.set_cons_succ]; unfold StepOK; go_simp; exact ⟨Below.refl _ _, isV_mk _ _⟩
  apply RunL.pure
  · intro vs w hb hd; have d1 := hd 1 (by decide) (by kernel_rfl); simp only [TR, Nat.reduceAdd, Nat.reduceSub, List.getD_cons_zero, List.getD_cons_succ] at d1; have d5 : isV _ (vs 5) w := hd 5 (by decide) (by kernel_rfl); unfold isV at d5; clear hd; simp only [List.take, putL, Act.put, List.setIfInBounds_toArray, List.set_cons_zero, List.set_cons_succ]; unfold StepOK; go_simp; exact ⟨Below.refl _ _, isV_mk _ _⟩
  apply RunL.pure
  · intro vs w hb hd; have d6 : isV _ (vs 6) w := hd 6 (by decide) (by kernel_rfl); unfold isV at d6; clear hd; simp only [List.take, putL, Act.put, List.setIfInBounds_toArray, List.set_cons_zero, List.set_cons_succ]; unfold StepOK; go_simp; exact ⟨Below.refl _ _, isV_mk _ _⟩
  apply RunL.pure
  · intro vs w hb hd; have d6 : isV _ (vs 6) w := hd 6 (by decide) (by kernel_rfl); unfold isV at d6; have d7 : isV _ (vs 7) w := hd 7 (by decide) (by kernel_rfl); unfold isV at d7; clear hd; simp only [List.take, putL, Act.put, List.setIfInBounds_toArray, List.set_cons_zero, List.set_cons_succ]; unfold StepOK; go_simp; exact ⟨Below.refl _ _, isV_mk _ _⟩
  apply RunL.pure
  · intro vs w hb hd; have d6 : isV _ (vs 6) w := hd 6 (by decide) (by kernel_rfl); unfold isV at d6; have d8 : isV _ (vs 8) w := hd 8 (by decide) (by kernel_rfl); unfold isV at d8; clear hd; simp only [List.take, putL, Act.put, List.setIfInBounds_toArray, List.set_cons_zero, List.set_cons_succ]; unfold StepOK; go_simp; exact ⟨Below.refl _ _, isV_mk _ _⟩
  apply RunL.pure
  · intro vs w hb hd; have d6 : isV _ (vs 6) w := hd 6 (by decide) (by kernel_rfl); unfold isV at d6; have d9 : isV _ (vs 9) w := hd 9 (by decide) (by kernel_rfl); unfold isV at d9; clear hd; simp only [List.take, putL, Act.put, List.setIfInBounds_toArray, List.set_cons_zero, List.set_cons_succ]; unfold StepOK; go_simp; exact ⟨Below.refl _ _, isV_mk _ _⟩
  apply RunL.pure
  · intro vs w hb hd; have d10 : isV _ (vs 10) w := hd 10 (by decide) (by kernel_rfl); unfold isV at d10; clear hd; simp only [List.take, putL, Act.put, List.setIfInBounds_toArray, List.set_cons_zero, List.set_cons_succ]; unfold StepOK; go_simp; exact ⟨Below.refl _ _, isV_mk _ _⟩
  apply RunL.pure
  · intro vs w hb hd; have d10 : isV _ (vs 10) w := hd 10 (by decide) (by kernel_rfl); unfold isV at d10; clear hd; simp only [List.take, putL, Act.put, List.setIfInBounds_toArray, List.set_cons_zero, List.set_cons_succ]; unfold StepOK; go_simp; exact ⟨Below.refl _ _, isV_mk _ _⟩
  apply RunL.pure
  · intro vs w hb hd; have d10 : isV _ (vs 10) w := hd 10 (by decide) (by kernel_rfl); unfold isV at d10; have d11 : isV _ (vs 11) w := hd 11 (by decide) (by kernel_rfl); unfold isV at d11; have d12 : isV _ (vs 12) w := hd 12 (by decide) (by kernel_rfl); unfold isV at d12; clear hd; simp only [List.take, putL, Act.put, List.setIfInBounds_toArray, List.set_cons_zero, List.set_cons_succ]; unfold StepOK; go_simp; exact ⟨Below.refl _ _, isV_mk _ _⟩
  apply RunL.pure
  · intro vs w hb hd; have d10 : isV _ (vs 10) w := hd 10 (by decide) (by kernel_rfl); unfold isV at d10; have d13 : isV _ (vs 13) w := hd 13 (by decide) (by kernel_rfl); unfold isV at d13; clear hd; simp only [List.take, putL, Act.put, List.setIfInBounds_toArray, List.set_cons_zero, List.set_cons_succ]; unfold StepOK; go_simp; exact ⟨Below.refl _ _, isV_mk _ _⟩
  apply RunL.pure
  · intro vs w hb hd; have d10 : isV _ (vs 10) w := hd 10 (by decide) (by kernel_rfl); unfold isV at d10; have d14 : isV _ (vs 14) w := hd 14 (by decide) (by kernel_rfl); unfold isV at d14; clear hd; simp only [List.take, putL, Act.put, List.setIfInBounds_toArray, List.set_cons_zero, List.set_cons_succ]; unfold StepOK; go_simp; exact ⟨Below.refl _ _, isV_mk _ _⟩
  apply RunL.pure
  · intro vs w hb hd; have d15 : isV _ (vs 15) w := hd 15 (by decide) (by kernel_rfl); unfold isV at d15; clear hd; simp only [List.take, putL, Act.put, List.setIfInBounds_toArray, List.set_cons_zero, List.set_cons_succ]; unfold StepOK; go_simp; exact ⟨Below.refl _ _, isV_mk _ _⟩
  apply RunL.pure
  · intro vs w hb hd; have d15 : isV _ (vs 15) w := hd 15 (by decide) (by kernel_rfl); unfold isV at d15; clear hd; simp only [List.take, putL, Act.put, List.setIfInBounds_toArray, List.set_cons_zero, List.set_cons_succ]; unfold StepOK; go_simp; exact ⟨Below.refl _ _, isV_mk _ _⟩
  apply RunL.pure
  · intro vs w hb hd; have d15 : isV _ (vs 15) w := hd 15 (by decide) (by kernel_rfl); unfold isV at d15; have d17 : isV _ (vs 17) w := hd 17 (by decide) (by kernel_rfl); unfold isV at d17; clear hd; simp only [List.take, putL, Act.put, List.setIfInBounds_toArray, List.set_cons_zero, List.set_cons_succ]; unfold StepOK; go_simp; exact ⟨Below.refl _ _, isV_mk _ _⟩
  apply RunL.pure
  · intro vs w hb hd; have d15 : isV _ (vs 15) w := hd 15 (by decide) (by kernel_rfl); unfold isV at d15; have d16 : isV _ (vs 16) w := hd 16 (by decide) (by kernel_rfl); unfold isV at d16; have d18 : isV _ (vs 18) w := hd 18 (by decide) (by kernel_rfl); unfold isV at d18; clear hd; simp only [List.take, putL, Act.put, List.setIfInBounds_toArray, List.set_cons_zero, List.set_cons_succ]; unfold StepOK; go_simp; exact ⟨Below.refl _ _, isV_mk _ _⟩
  apply RunL.pure
  · intro vs w hb hd; have d15 : isV _ (vs 15) w := hd 15 (by decide) (by kernel_rfl); unfold isV at d15; have d19 : isV _ (vs 19) w := hd 19 (by decide) (by kernel_rfl); unfold isV at d19; clear hd; simp only [List.take, putL, Act.put, List.setIfInBounds_toArray, List.set_cons_zero, List.set_cons_succ]; unfold StepOK; go_simp; exact ⟨Below.refl _ _, isV_mk _ _⟩
  apply RunL.pure
  · intro vs w hb hd; have d0 : isV _ (vs 0) w := hd 0 (by decide) (by kernel_rfl); unfold isV at d0; have d1 := hd 1 (by decide) (by kernel_rfl); simp only [TR, Nat.reduceAdd, Nat.reduceSub, List.getD_cons_zero, List.getD_cons_succ] at d1; have d2 : isV _ (vs 2) w := hd 2 (by decide) (by kernel_rfl); unfold isV at d2; have d3 : isV _ (vs 3) w := hd 3 (by decide) (by kernel_rfl); unfold isV at d3; have d4 : isV _ (vs 4) w := hd 4 (by decide) (by kernel_rfl); unfold isV at d4; have d5 : isV _ (vs 5) w := hd 5 (by decide) (by kernel_rfl); unfold isV at d5; have d6 : isV _ (vs 6) w := hd 6 (by decide) (by kernel_rfl); unfold isV at d6; have d7 : isV _ (vs 7) w := hd 7 (by decide) (by kernel_rfl); unfold isV at d7; have d8 : isV _ (vs 8) w := hd 8 (by decide) (by kernel_rfl); unfold isV at d8; have d9 : isV _ (vs 9) w := hd 9 (by decide) (by kernel_rfl); unfold isV at d9; have d10 : isV _ (vs 10) w := hd 10 (by decide) (by kernel_rfl); unfold isV at d10; have d11 : isV _ (vs 11) w := hd 11 (by decide) (by kernel_rfl); unfold isV at d11; have d12 : isV _ (vs 12) w := hd 12 (by decide) (by kernel_rfl); unfold isV at d12; have d13 : isV _ (vs 13) w := hd 13 (by decide) (by kernel_rfl); unfold isV at d13; have d14 : isV _ (vs 14) w := hd 14 (by decide) (by kernel_rfl); unfold isV at d14; have d15 : isV _ (vs 15) w := hd 15 (by decide) (by kernel_rfl); unfold isV at d15; have d16 : isV _ (vs 16) w := hd 16 (by decide) (by kernel_rfl); unfold isV at d16; have d17 : isV _ (vs 17) w := hd 17 (by decide) (by kernel_rfl); unfold isV at d17; have d18 : isV _ (vs 18) w := hd 18 (by decide) (by kernel_rfl); unfold isV at d18; have d19 : isV _ (vs 19) w := hd 19 (by decide) (by kernel_rfl); unfold isV at d19; have d20 : isV _ (vs 20) w := hd 20 (by decide) (by kernel_rfl); unfold isV at d20; clear hd; simp only [List.take, putL, Act.put, List.setIfInBounds_toArray, List.set_cons_zero, List.set_cons_succ]; unfold StepOK; go_simp; exact ⟨Below.refl _ _, isV_mk _ _⟩
  intro vs w1 hb hd
  have e0 : isV _ (vs 0) w1 := hd 0 (by decide)
  have e1 := hd 1 (by decide); simp only [TR, Nat.reduceAdd, Nat.reduceSub, List.getD_cons_zero, List.getD_cons_succ] at e1
  have e2 : isV _ (vs 2) w1 := hd 2 (by decide)
  have e3 : isV _ (vs 3) w1 := hd 3 (by decide)
  have e4 : isV _ (vs 4) w1 := hd 4 (by decide)
  have e5 : isV _ (vs 5) w1 := hd 5 (by decide)
  have e6 : isV _ (vs 6) w1 := hd 6 (by decide)
  have e7 : isV _ (vs 7) w1 := hd 7 (by decide)
  have e8 : isV _ (vs 8) w1 := hd 8 (by decide)
  have e9 : isV _ (vs 9) w1 := hd 9 (by decide)
  have e10 : isV _ (vs 10) w1 := hd 10 (by decide)
  have e11 : isV _ (vs 11) w1 := hd 11 (by decide)
  have e12 : isV _ (vs 12) w1 := hd 12 (by decide)
  have e13 : isV _ (vs 13) w1 := hd 13 (by decide)
  have e14 : isV _ (vs 14) w1 := hd 14 (by decide)
  have e15 : isV _ (vs 15) w1 := hd 15 (by decide)
  have e16 : isV _ (vs 16) w1 := hd 16 (by decide)
  have e17 : isV _ (vs 17) w1 := hd 17 (by decide)
  have e18 : isV _ (vs 18) w1 := hd 18 (by decide)
  have e19 : isV _ (vs 19) w1 := hd 19 (by decide)
  have e20 : isV _ (vs 20) w1 := hd 20 (by decide)
  have e21 : isV _ (vs 21) w1 := hd 21 (by decide)
  clear hd
  unfold isV at e0 e2 e3 e4 e5 e6 e7 e8 e9 e10 e11 e12 e13 e14 e15 e16 e17 e18 e19 e20 e21
  simp only [putL, Act.put, List.setIfInBounds_toArray, List.set_cons_zero, List.set_cons_succ, e0, e2, e3, e4, e5, e6, e7, e8, e9, e10, e11, e12, e13, e14, e15, e16, e17, e18, e19, e20, e21]
  clear e0 e2 e3 e4 e5 e6 e7 e8 e9 e10 e11 e12 e13 e14 e15 e16 e17 e18 e19 e20 e21
  --@end
  go_wp2
  go_ret
  exact ⟨rfl, hb⟩

set_option maxRecDepth 100000 in
set_option maxHeartbeats 1000000 in
theorem refused_any (A : Option Addr) (m c : Nat) (er : Nat) (at_ : Int) (l : List UInt8) (w : World) (hs : Sl w 1 A m c (bytesV l)) (hm : m ≤ 140737488351232) (hg : gu l at_ = (0, 0, er)) :
    Calls Try.prog 29 #[.int .i64 (er : Int), .int .i64 at_, .slice A m c] w fun e w' => e = .returned (.bool true) ∧ w = w' := by
  have hgi : gi l at_ = (0, 0, er) := by unfold gi; rw [hg]; simp
  have Hg := Lib.hid hg
  have Hgi := Lib.hid hgi
  clear hg hgi
  go_enter Try.func29, Try.ntmps29
  go_wp2_with (first | (go_at_call 17; refine (getInt_any _ _ _ l _ _ hs hm).mono ?_; rintro e w' ⟨rfl, rfl⟩; rw [Hgi.out]; dsimp only) | (go_at_call 31; refine (getUint_any _ _ _ l _ _ hs hm).mono ?_; rintro e w' ⟨rfl, rfl⟩; rw [Hg.out]; dsimp only))
  go_ret
  exact ⟨rfl, rfl⟩

/-- bytes that are written out -/
theorem sl_lit (w : World) (l : List UInt8) (e : TypeId) : Sl (w.alloc (.cells (bytesV l).toArray e)) 1 (some ⟨w.heap.size, 0, none⟩) l.length l.length (bytesV l) := by
  refine ⟨fun j u hj => ⟨_, rfl, ?_⟩, by simp [bytesV], Nat.le_refl _, fun h => by cases h⟩
  rw [add_plain, cell_of_row _ w.heap.size j (bytesV l).toArray e (0, 0) (heap_alloc_new w _)]
  simpa using hj
theorem sl_lit_mark (w : World) (l : List UInt8) (e : TypeId) (fr : Nat × Nat) : Sl (w.alloc (.cells (bytesV l).toArray e fr)) 1 (some ⟨w.heap.size, 0, none⟩) l.length l.length (bytesV l) := by
  refine ⟨fun j u hj => ⟨_, rfl, ?_⟩, by simp [bytesV], Nat.le_refl _, fun h => by cases h⟩
  rw [add_plain, cell_of_row _ w.heap.size j (bytesV l).toArray e fr (heap_alloc_new w _)]
  simpa using hj
theorem writes_lit (A : Option Addr) (m c : Nat) (N : Int) (n : Nat) (l : List UInt8) (w : World) (hs : Sl w 1 A m c (bytesV l)) (hN : N = n) (hl : l = uv n) (hn : n < 18446744073709551616) (hm : m ≤ 140737488351232) (hg : gu l 0 = (n, m, 0)) :
    Calls Try.prog 28 #[.int .u64 N, .slice A m c] w fun e w' => e = .returned (.bool true) ∧ Below w.heap.size w w' := by
  subst hN; subst hl; exact writes_any A m c n w hs hn hm hg
theorem signed_lit (A : Option Addr) (m c : Nat) (i : Int) (l : List UInt8) (w : World) (hs : Sl w 1 A m c (bytesV l)) (hl : l = uv (zz i)) (h1 : -9223372036854775808 ≤ i) (h2 : i ≤ 9223372036854775807) (hm : m ≤ 140737488351232) (hg : gi l 0 = (i, m, 0)) :
    Calls Try.prog 27 #[.int .i64 i, .slice A m c] w fun e w' => e = .returned (.bool true) ∧ Below w.heap.size w w' := by
  subst hl; exact signed_any A m c i w hs h1 h2 hm hg
theorem refused_lit (A : Option Addr) (m c : Nat) (er : Nat) (E : Int) (at_ : Int) (l : List UInt8) (w : World) (hs : Sl w 1 A m c (bytesV l)) (hE : E = er) (hm : m ≤ 140737488351232) (hg : gu l at_ = (0, 0, er)) :
    Calls Try.prog 29 #[.int .i64 E, .int .i64 at_, .slice A m c] w fun e w' => e = .returned (.bool true) ∧ Below w.heap.size w w' := by
  subst hE; exact (refused_any A m c er at_ l w hs hm hg).mono fun e w' ⟨h1, h2⟩ => ⟨h1, h2 ▸ Below.refl _ _⟩
theorem crc_lit (A : Option Addr) (m c : Nat) (l : List UInt8) (w : World) (hs : Sl w 1 A m c (bytesV l)) (hm : m ≤ 140737488351232) (r : Int) (hr : ((crc l).toNat : Int) = r) :
    Calls Try.prog 23 #[.slice A m c] w fun e w' => e = .returned (.int .u32 r) ∧ Below w.heap.size w w' :=
  (crc_any A m c l w hs hm).mono fun e w' ⟨h1, h2⟩ => ⟨by rw [h1, hr], h2 ▸ Below.refl _ _⟩
theorem uv_0 : uv 0 = [0] := by rw [uv_small 0 (by omega)]; rfl
theorem uv_127 : uv 127 = [127] := by rw [uv_small 127 (by omega)]; rfl
theorem uv_128 : uv 128 = [128, 1] := by rw [uv_big 128 (by omega), uv_small (128 / 128) (by omega)]; rfl
theorem uv_300 : uv 300 = [172, 2] := by rw [uv_big 300 (by omega), uv_small (300 / 128) (by omega)]; rfl
theorem uv_1 : uv 1 = [1] := by rw [uv_small 1 (by omega)]; rfl
theorem uv_2 : uv 2 = [2] := by rw [uv_small 2 (by omega)]; rfl

theorem uv_m1 : uv (zz (-1)) = [1] := by rw [show zz (-1) = 1 by decide]; exact uv_1
theorem uv_p1 : uv (zz 1) = [2] := by rw [show zz 1 = 2 by decide]; exact uv_2
theorem uv_m64 : uv (zz (-64)) = [127] := by rw [show zz (-64) = 127 by decide]; exact uv_127
theorem blob_nil (B : Option Addr) (m d : Nat) (b : List UInt8) (w : World) (hs : Sl w 1 B m d (bytesV b)) (hm : m ≤ 70368744175616) :
    Calls Try.prog 38 #[.slice none 0 0, .slice B m d] w fun e w' => ∃ v, e = .returned v ∧ Below w.heap.size w w' ∧ isB (uv b.length ++ b) v w' :=
  (blob_any w.heap.size none B 0 0 m d [] b w (App.nil _ _ _ _) (Nat.le_refl _) hs (fun ad _ => by simp [rowOf]) (by omega) hm).mono fun e w1 ⟨A1, n1, c1, he, hto⟩ =>
    ⟨_, he, hto.below (Nat.le_refl _), A1, n1, c1, rfl, by simpa using hto.app.sl⟩

set_option maxRecDepth 100000 in
set_option maxHeartbeats 400000 in
/-- the chapter's examples come out as written -/
theorem awake_any (w : World) :
    Calls Try.prog 21 #[] w fun e w' => e = .returned (.bool true) ∧ Below w.heap.size w w' := by
  have hcrc : ((crc [49, 50, 51, 52, 53, 54, 55, 56, 57]).toNat : Int) = 3421780262 := by decide +kernel
  have Hcrc := Lib.hid hcrc
  clear hcrc
  have kc := fun (w : World) (C : Array Value) (n c : Nat) => Lib.run_convert_bytes_const (P := Try.prog) w 26 5 C n c Try.underlying26 Try.underlying5
  go_enter Try.func21, Try.ntmps21
  go_wp2_with fail
  refine (writes_lit _ _ _ _ 0 [0] _ (sl_lit _ [0] 5) rfl uv_0.symm (by omega) (by decide) (by decide)).mono ?_; rintro e w1 ⟨rfl, hn⟩
  have hb1 : Below w.heap.size w w1 := (below_alloc1 w _).trans (hn.mono (by simp)); clear hn
  go_wp2_with fail
  refine (writes_lit _ _ _ _ 127 [127] _ (sl_lit _ [127] 5) rfl uv_127.symm (by omega) (by decide) (by decide)).mono ?_; rintro e w2 ⟨rfl, hn⟩
  have hb2 : Below w.heap.size w w2 := (hb1.alloc hb1.size _).trans (hn.mono (by simp; have := hb1.size; omega)); clear hn
  clear hb1
  go_wp2_with fail
  refine (writes_lit _ _ _ _ 128 [128, 1] _ (sl_lit _ [128, 1] 5) rfl uv_128.symm (by omega) (by decide) (by decide)).mono ?_; rintro e w3 ⟨rfl, hn⟩
  have hb3 : Below w.heap.size w w3 := (hb2.alloc hb2.size _).trans (hn.mono (by simp; have := hb2.size; omega)); clear hn
  clear hb2
  go_wp2_with fail
  refine (writes_lit _ _ _ _ 300 [172, 2] _ (sl_lit _ [172, 2] 5) rfl uv_300.symm (by omega) (by decide) (by decide)).mono ?_; rintro e w4 ⟨rfl, hn⟩
  have hb4 : Below w.heap.size w w4 := (hb3.alloc hb3.size _).trans (hn.mono (by simp; have := hb3.size; omega)); clear hn
  clear hb3
  go_wp2_with fail
  refine (signed_lit _ _ _ (-1) [1] _ (sl_lit _ [1] 5) uv_m1.symm (by omega) (by omega) (by decide) (by decide)).mono ?_; rintro e w5 ⟨rfl, hn⟩
  have hb5 : Below w.heap.size w w5 := (hb4.alloc hb4.size _).trans (hn.mono (by simp; have := hb4.size; omega)); clear hn
  clear hb4
  go_wp2_with fail
  refine (signed_lit _ _ _ (1) [2] _ (sl_lit _ [2] 5) uv_p1.symm (by omega) (by omega) (by decide) (by decide)).mono ?_; rintro e w6 ⟨rfl, hn⟩
  have hb6 : Below w.heap.size w w6 := (hb5.alloc hb5.size _).trans (hn.mono (by simp; have := hb5.size; omega)); clear hn
  clear hb5
  go_wp2_with fail
  refine (signed_lit _ _ _ (-64) [127] _ (sl_lit _ [127] 5) uv_m64.symm (by omega) (by omega) (by decide) (by decide)).mono ?_; rintro e w7 ⟨rfl, hn⟩
  have hb7 : Below w.heap.size w w7 := (hb6.alloc hb6.size _).trans (hn.mono (by simp; have := hb6.size; omega)); clear hn
  clear hb6
  go_wp2_with fail
  refine (blob_nil _ _ _ [97, 98] _ (sl_lit_mark _ [97, 98] 5 _) (by decide)).mono ?_; rintro e w8 ⟨v8, rfl, hn, A8, n8, c8, rfl, hs8⟩
  have hb8 : Below w.heap.size w w8 := (hb7.alloc hb7.size _).trans (hn.mono (by simp; have := hb7.size; omega)); clear hn hb7
  have hcv : (convert 26 9 (.slice A8 n8 c8)).run Try.prog w8 = .ok (.string { data := #[2, 97, 98] }) w8 := by have h := run_str hs8; rw [show ([97, 98] : List UInt8).length = 2 from rfl, uv_2] at h; exact h
  clear hs8
  go_wp2_with fail
  refine (refused_lit _ _ _ 10 _ _ [128, 0] _ (sl_lit _ [128, 0] 5) rfl (by decide) (by decide)).mono ?_; rintro e w9 ⟨rfl, hn⟩
  have hb9 : Below w.heap.size w w9 := (hb8.alloc hb8.size _).trans (hn.mono (by simp; have := hb8.size; omega)); clear hn hb8 hcv
  go_wp2_with fail
  refine (refused_lit _ _ _ 11 _ _ [128] _ (sl_lit _ [128] 5) rfl (by decide) (by decide)).mono ?_; rintro e w10 ⟨rfl, hn⟩
  have hb10 : Below w.heap.size w w10 := (hb9.alloc hb9.size _).trans (hn.mono (by simp; have := hb9.size; omega)); clear hn hb9
  go_wp2_with fail
  refine (crc_lit _ _ _ [49, 50, 51, 52, 53, 54, 55, 56, 57] _ (sl_lit_mark _ [49, 50, 51, 52, 53, 54, 55, 56, 57] 5 _) (by decide) _ Hcrc.out).mono ?_; rintro e w11 ⟨rfl, hn⟩
  have hb11 : Below w.heap.size w w11 := (hb10.alloc hb10.size _).trans (hn.mono (by simp; have := hb10.size; omega)); clear hn hb10
  go_wp2_with fail
  refine (seal_any none 0 0 [] _ (Sl.nil _ _) (by decide)).mono ?_; rintro e w12 ⟨rfl, hown, hn⟩
  have hb12 : Below w.heap.size w w12 := hb11.trans (hn.mono hb11.size); clear hn
  have hcv : (convert 26 9 (.slice (some ⟨w11.heap.size, 0, none⟩) (0 + 4) (0 + 4))).run Try.prog w12 = .ok (.string { data := #[0, 0, 0, 0] }) w12 := by
    have h := run_str (ownsRow_sl hown)
    rw [show [] ++ crc4 (crc []) = [0, 0, 0, 0] by decide +kernel] at h; exact h
  clear hown hb11
  go_wp2
  go_ret
  exact ⟨rfl, hb12⟩
end Go.Proofs.Ytbnifagmbhiblaa
