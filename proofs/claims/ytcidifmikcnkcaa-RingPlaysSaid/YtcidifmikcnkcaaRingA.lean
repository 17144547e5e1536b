import Derived.Test.YtcidifmikcnkcaaZeros
import Derived.Test.YtcidifmikcnkcaaLibN
import Derived.Test.YtcidifmikcnkcaaShelf
import Derived.BigQuiet
import Derived.Test.YtcidifmikcnkcaaRelA
/- A queue: many numbers, round and round. -/
namespace Go.Proofs.Ytcidifmikcnkcaa
open Go.RowKit
set_option linter.unusedSimpArgs false
set_option linter.unusedVariables false

structure Qu where
  most : Int
  l : List Int
def qC (q : Qu) (A : Option Addr) (n c f : Nat) : List Value := [.int .i64 q.most, .slice A n c, .int .i64 f, .int .i64 q.l.length]
def intsL (l : List Int) : List Value := l.map (Value.int .i64)
theorem intsL_one (l : List Int) : ∀ u ∈ intsL l, u.oneCell' = true := by
  intro u hu
  simp only [intsL, List.mem_map] at hu
  obtain ⟨x, _, rfl⟩ := hu
  rfl
theorem slI_cell {w : World} {A : Option Addr} {m d : Nat} {l : List Int} (h : Sl w 1 A m d (intsL l)) {k : Nat} {x : Int} (hk : l[k]? = some x) : ∃ ad, A = some ad ∧ w.cell? (ad.add k) = some (.int .i64 x) :=
  h.cells k _ (by rw [intsL, List.getElem?_map, hk]; rfl)
theorem slI_len {w : World} {A : Option Addr} {m d : Nat} {l : List Int} (h : Sl w 1 A m d (intsL l)) : l.length = m := by have := h.len; simpa [intsL] using this
theorem infoInt : (Try.prog.info? 3).map (fun i => (i.zero, i.size, i.bytes)) = some (some (.int .i64 0), 1, 8) := by kernel_rfl

structure QIs (w : World) (base b : Nat) (q : Qu) (A : Option Addr) (n c f : Nat) (L : List Int) : Prop where
  own : Own base 88 1 w (some ⟨b, 0, none⟩) 4 4 (qC q A n c f)
  row : Own base 3 1 w A n c (intsL L)
  ne : ∀ a, A = some a → a.block ≠ b
  most : 0 ≤ q.most ∧ q.most ≤ 65536
  len : q.l.length ≤ n ∧ n ≤ 200000 ∧ q.l.length ≤ 65536
  from_ : f < n ∨ (n = 0 ∧ f = 0)
  ring : ∀ i x, q.l[i]? = some x → L[(f + i) % n]? = some x
theorem QIs.below {w w' : World} {base b n c f : Nat} {q : Qu} {A : Option Addr} {L : List Int} (h : QIs w base b q A n c f L) (hb : Below w.heap.size w w') : QIs w' base b q A n c f L :=
  ⟨h.own.below hb, h.row.below hb, h.ne, h.most, h.len, h.from_, h.ring⟩
theorem QIs.cell {w : World} {base b n c f : Nat} {q : Qu} {A : Option Addr} {L : List Int} (h : QIs w base b q A n c f L) :
    w.cell? ⟨b, 0, none⟩ = some (.int .i64 q.most) ∧ w.cell? ⟨b, 1, none⟩ = some (.slice A n c) ∧ w.cell? ⟨b, 2, none⟩ = some (.int .i64 f) ∧ w.cell? ⟨b, 3, none⟩ = some (.int .i64 q.l.length) := by
  have key : ∀ j u, (qC q A n c f)[j]? = some u → w.cell? ⟨b, j, none⟩ = some u := by
    intro j u hj
    obtain ⟨a, h1, h2⟩ := h.own.sl.cells j u hj
    cases h1
    rwa [add_plain] at h2
  exact ⟨key 0 _ rfl, key 1 _ rfl, key 2 _ rfl, key 3 _ rfl⟩
theorem QIs.Ln {w : World} {base b n c f : Nat} {q : Qu} {A : Option Addr} {L : List Int} (h : QIs w base b q A n c f L) : L.length = n := slI_len h.row.sl

set_option maxHeartbeats 4000000 in
theorem place_any {w : World} {b n c f : Nat} {A : Option Addr} (c1 : w.cell? ⟨b, 1, none⟩ = some (.slice A n c)) (c2 : w.cell? ⟨b, 2, none⟩ = some (.int .i64 f)) (hf : f < n) (hn : n ≤ 200000) (i : Nat) (hi : i ≤ 400000) :
    Calls Try.prog 51 #[.pointer (some ⟨b, 0, none⟩), .int .i64 (i : Int)] w fun e w' => e = .returned (.int .i64 (((f + i) % n : Nat) : Int)) ∧ Below w.heap.size w w' := by
  have hmod : ((f : Int) + (i : Int)).tmod (n : Int) = (((f + i) % n : Nat) : Int) := by rw [← Int.natCast_add, Int.tmod_eq_emod_of_nonneg (by omega)]; rfl
  have hmod2 : ((f : Int) + (i : Int)) % (n : Int) = (((f + i) % n : Nat) : Int) := by rw [← Int.natCast_add]; rfl
  have hlt : (f + i) % n < n := Nat.mod_lt _ (by omega)
  have hn0 : ¬ (n : Int) = 0 := by omega
  obtain ⟨r, hr⟩ : ∃ r, r = (f + i) % n := ⟨_, rfl⟩
  rw [← hr] at hmod hmod2 hlt ⊢
  clear hr
  go_enter Try.func51, Try.ntmps51
  go_upto_region 1 with fail
  go_quiet (fail)
  go_wp2_with fail
  go_ret
  exact ⟨rfl, below_drewN (Below.refl _ _) _⟩
theorem R3.belB {q B : Nat} {w w' : World} (h : R3 q B w w') (hB : B ≤ w.heap.size) : Below B w w' :=
  ⟨h.os, h.tape, h.output, h.size, fun b hb => h.low b (Nat.lt_of_lt_of_le hb hB) hb⟩
theorem addr_ints (l : List Int) (k : Nat) (x : Int) (h : l[k]? = some x) : intsL (l.take (k + 1)) = intsL (l.take k) ++ [.int .i64 x] := by
  rw [List.take_add_one, h]
  simp [intsL]

set_option maxRecDepth 100000 in
set_option maxHeartbeats 8000000 in
theorem qall_any {W : World} {base b n c f : Nat} {q : Qu} {A : Option Addr} {L : List Int} (h : QIs W base b q A n c f L) :
    Calls Try.prog 50 #[.pointer (some ⟨b, 0, none⟩), .func (.func 51) #[.pointer (some ⟨b, 0, none⟩)] #[]] W fun e w' => ∃ A' c', e = .returned (.slice A' q.l.length c') ∧ Own W.heap.size 3 1 w' A' q.l.length c' (intsL q.l) ∧ (q.l.length = 0 → c' = 0) ∧ Below W.heap.size W w' := by
  obtain ⟨c0, c1, c2, c3⟩ := h.cell
  have hlen := h.len
  have HQ := Lib.hid h
  clear h
  go_enter Try.func50, Try.ntmps50
  go_wp2_with fail
  go_loopw [5, 11] (fun s5 s11 wx => ∃ (k : Nat) (A5 : Option Addr) (c5 : Nat), k ≤ q.l.length ∧ s5 = .slice A5 k c5 ∧ s11 = .int .i64 (k : Int) ∧ Hid (Own W.heap.size 3 1 wx A5 k c5 (intsL (q.l.take k))) ∧ (k = 0 → c5 = 0) ∧ Hid (Below W.heap.size W wx)) (fun _ iv _ => q.l.length - (intOf iv).toNat)
  case atStart => exact ⟨0, none, 0, by omega, rfl, rfl, Lib.hid (World.ownsRow_nil _ _ _ _), fun _ => rfl, Lib.hid (Below.refl _ _)⟩
  case round =>
    obtain ⟨k, A5, c5, hk, rfl, rfl, HO, hz0, HB⟩ := hrel
    by_cases hkl : k < q.l.length
    · obtain ⟨x, hx⟩ : ∃ x, q.l[k]? = some x := ⟨_, List.getElem?_eq_getElem hkl⟩
      have hLx := HQ.out.ring k x hx
      obtain ⟨r, hr⟩ : ∃ r, r = (f + k) % n := ⟨_, rfl⟩
      have hrn : (0 : Int) ≤ (r : Int) ∧ (r : Int) < (n : Int) := by have := Nat.mod_lt (f + k) (show 0 < n by omega); omega
      rw [← hr] at hLx
      obtain ⟨ad, rfl⟩ : ∃ ad, A = some ad := by
        obtain ⟨ad, h1, _⟩ := slI_cell HQ.out.row.sl hLx
        exact ⟨ad, h1⟩
      have HX := Lib.hid (show ∀ w', QIs w' base b q (some ad) n c f L → w'.cell? (ad.add r) = some (.int .i64 x) from fun w' hq => by
        obtain ⟨ad', h1, h2⟩ := slI_cell hq.row.sl hLx
        cases h1; exact h2)
      have HF : Hid (f < n) := Lib.hid (by rcases HQ.out.from_ with h | h <;> omega)
      have Hr := Lib.hid hr
      have Hx := Lib.hid hx
      clear hr hLx hx
      go_upto_region 5 with fail
      --@region 50 5 rall5.spec
      refine wp_region_runE [11, 12] (fun _ _ => True) (by kernel_rfl) (by kernel_rfl) (by kernel_rfl) (R := R3 (max k 1) W.heap.size) (fun _ _ h => R3.below h) (fun _ _ _ => R3.trans) (fun _ _ _ _ _ => trivial) trivial ?_
      apply RunE.pure (by decide)
      · intro vs w hb hd; clear hd; simp only [List.take, putL, Act.put, List.setIfInBounds_toArray, List.set_cons_zero, List.set_cons_succ]; unfold StepOK; go_simp; exact ⟨Below.refl _ _, isV_mk _ _⟩
      apply RunE.pure (by decide)
      · intro vs w hb hd; clear hd; simp only [List.take, putL, Act.put, List.setIfInBounds_toArray, List.set_cons_zero, List.set_cons_succ]; unfold StepOK; go_simp; exact ⟨Below.refl _ _, isV_mk _ _⟩
      apply RunE.pure (by decide)
      · intro vs w hb hd; have d1 : isV _ (vs 1) w := hd 1 (by decide) (by kernel_rfl); unfold isV at d1; clear hd; simp only [List.take, putL, Act.put, List.setIfInBounds_toArray, List.set_cons_zero, List.set_cons_succ]; unfold StepOK; go_simp; exact ⟨Below.refl _ _, isV_mk _ _⟩
      apply RunE.pure (by decide)
      · intro vs w hb hd; have d2 : isV _ (vs 2) w := hd 2 (by decide) (by kernel_rfl); unfold isV at d2; clear hd; simp only [List.take, putL, Act.put, List.setIfInBounds_toArray, List.set_cons_zero, List.set_cons_succ]; unfold StepOK; go_simp; exact ⟨Below.refl _ _, isV_mk _ _⟩
      apply RunE.pure (by decide)
      · intro vs w hb hd; have d3 : isV _ (vs 3) w := hd 3 (by decide) (by kernel_rfl); unfold isV at d3; clear hd; have hx1 := (HQ.out.below (HB.out.trans (R3.belB hb HB.out.size))).cell.2.1; simp only [List.take, putL, Act.put, List.setIfInBounds_toArray, List.set_cons_zero, List.set_cons_succ]; unfold StepOK; go_simp; exact ⟨Below.refl _ _, isV_mk _ _⟩
      apply RunE.pure (by decide)
      · intro vs w hb hd; clear hd; simp only [List.take, putL, Act.put, List.setIfInBounds_toArray, List.set_cons_zero, List.set_cons_succ]; unfold StepOK; go_simp; exact ⟨Below.refl _ _, isV_mk _ _⟩
      apply RunE.pure (by decide)
      · intro vs w hb hd; clear hd; simp only [List.take, putL, Act.put, List.setIfInBounds_toArray, List.set_cons_zero, List.set_cons_succ]; unfold StepOK; go_simp; exact ⟨Below.refl _ _, isV_mk _ _⟩
      refine RunE.such (by decide) (isV (.int .i64 ((r : Nat) : Int))) (isV_stableR _) ?_ ?_
      · intro vs w hb hd; have d5 : isV _ (vs 5) w := hd 5 (by decide) (by kernel_rfl); unfold isV at d5; have d6 : isV _ (vs 6) w := hd 6 (by decide) (by kernel_rfl); unfold isV at d6; clear hd; have hq := HQ.out.below (HB.out.trans (R3.belB hb HB.out.size)); simp only [List.take, putL, Act.put, List.setIfInBounds_toArray, List.set_cons_zero, List.set_cons_succ]; unfold StepOK; go_simp; exact ⟨Below.refl _ _, such_of_bool (by rw [Hr.out]; exact place_any hq.cell.2.1 hq.cell.2.2.1 HF.out (by omega) k (by omega))⟩
      apply RunE.pure (by decide)
      · intro vs w hb hd; have d4 : isV _ (vs 4) w := hd 4 (by decide) (by kernel_rfl); unfold isV at d4; have d7 := hd 7 (by decide) (by kernel_rfl); simp only [TR, Nat.reduceAdd, Nat.reduceSub, List.getD_cons_zero, List.getD_cons_succ] at d7; clear hd; unfold isV at d7; have hx1 := hrn; simp only [List.take, putL, Act.put, List.setIfInBounds_toArray, List.set_cons_zero, List.set_cons_succ]; unfold StepOK; go_simp; exact ⟨Below.refl _ _, isV_mk _ _⟩
      apply RunE.pure (by decide)
      · intro vs w hb hd; have d8 : isV _ (vs 8) w := hd 8 (by decide) (by kernel_rfl); unfold isV at d8; clear hd; have hx1 := (HX.out _ (HQ.out.below (HB.out.trans (R3.belB hb HB.out.size)))); simp only [List.take, putL, Act.put, List.setIfInBounds_toArray, List.set_cons_zero, List.set_cons_succ]; unfold StepOK; go_simp; exact ⟨Below.refl _ _, isV_mk _ _⟩
      refine RunE.such (by decide) (isX W.heap.size 3 1 [.int .i64 x]) (isX_st _ _ _ _ _ (by omega)) ?_ ?_
      · intro vs w hb hd; have d9 : isV _ (vs 9) w := hd 9 (by decide) (by kernel_rfl); unfold isV at d9; clear hd; have hB := Nat.le_trans HB.out.size hb.size; simp only [List.take, putL, Act.put, List.setIfInBounds_toArray, List.set_cons_zero, List.set_cons_succ]; unfold StepOK; go_simp; exact ⟨below_alloc1 _ _, _, rfl, World.ownsRow_lit _ #[.int .i64 x] 1 hB (by unfold maxLen; omega) rfl⟩
      refine RunE.eff (by decide) (isJ W.heap.size 3 1 (k + 1) (intsL (q.l.take k) ++ [.int .i64 x])) (isJ_st _ _ _ _ _) ?_ ?_
      · intro vs w hb hd hj; have d0 : isV _ (vs 0) w := hd 0 (by decide) (by kernel_rfl); unfold isV at d0; have d7 := hd 7 (by decide) (by kernel_rfl); simp only [TR, Nat.reduceAdd, Nat.reduceSub, List.getD_cons_zero, List.getD_cons_succ] at d7; have d10 := hd 10 (by decide) (by kernel_rfl); simp only [TR, Nat.reduceAdd, Nat.reduceSub, List.getD_cons_zero, List.getD_cons_succ] at d10; clear hd; have hj2 := hj; (try simp only [prevE, lastV, List.mem_cons, List.not_mem_nil, or_false, Nat.reduceEqDiff, Nat.reduceAdd, if_true, if_false, reduceIte, or_true, true_or, or_self] at hj2); clear hj; obtain ⟨b8, e8, o8⟩ := isX_elim d10; have o5 := R3.own hb HO.out (by omega); obtain ⟨A', d', w', hrun, o', hr'⟩ := run_app3 (P := Try.prog) w (max k 1) W.heap.size 22 22 3 (.int .i64 0) 1 8 Try.underlying22 infoInt rfl (by decide) A5 k c5 _ o5 (by by_cases h0 : k = 0; exact .inr (hz0 h0); exact .inl (by omega)) (some ⟨b8, 0, none⟩) 1 1 _ (Own.sl o8) (fun u hu => by simp at hu; rcases hu with rfl; rfl) (by unfold maxLen; omega) (by omega) (Nat.le_trans HB.out.size hb.size); exact stepE_app rfl (.tmp 14) (.tmp 24) 22 rfl (by simp [Act.eval, putL, Act.put, d0]) (by simp [Act.eval, putL, Act.put, e8]) hrun hr' ⟨A', d', rfl, o'⟩
      refine RunE.eff (by decide) (isJ W.heap.size 3 1 (k + 1) (intsL (q.l.take k) ++ [.int .i64 x])) (isJ_st _ _ _ _ _) ?_ ?_
      · intro vs w hb hd hj; have d0 : isV _ (vs 0) w := hd 0 (by decide) (by kernel_rfl); unfold isV at d0; have d1 : isV _ (vs 1) w := hd 1 (by decide) (by kernel_rfl); unfold isV at d1; have d2 : isV _ (vs 2) w := hd 2 (by decide) (by kernel_rfl); unfold isV at d2; have d3 : isV _ (vs 3) w := hd 3 (by decide) (by kernel_rfl); unfold isV at d3; have d4 : isV _ (vs 4) w := hd 4 (by decide) (by kernel_rfl); unfold isV at d4; have d5 : isV _ (vs 5) w := hd 5 (by decide) (by kernel_rfl); unfold isV at d5; have d6 : isV _ (vs 6) w := hd 6 (by decide) (by kernel_rfl); unfold isV at d6; have d7 := hd 7 (by decide) (by kernel_rfl); simp only [TR, Nat.reduceAdd, Nat.reduceSub, List.getD_cons_zero, List.getD_cons_succ] at d7; have d8 : isV _ (vs 8) w := hd 8 (by decide) (by kernel_rfl); unfold isV at d8; have d9 : isV _ (vs 9) w := hd 9 (by decide) (by kernel_rfl); unfold isV at d9; have d10 := hd 10 (by decide) (by kernel_rfl); simp only [TR, Nat.reduceAdd, Nat.reduceSub, List.getD_cons_zero, List.getD_cons_succ] at d10; clear hd; have hj2 := hj; (try simp only [prevE, lastV, List.mem_cons, List.not_mem_nil, or_false, Nat.reduceEqDiff, Nat.reduceAdd, if_true, if_false, reduceIte, or_true, true_or, or_self] at hj2); clear hj; obtain ⟨A13, c13, e13, o13⟩ := hj2; simp only [List.take, putL, Act.put, List.setIfInBounds_toArray, List.set_cons_zero, List.set_cons_succ]; unfold StepE; go_simp; exact ⟨R3.below (Below.refl _ _), A13, c13, rfl, o13⟩
      intro vs w1 hb hd hj
      try simp only [prevE, lastV, List.mem_cons, List.not_mem_nil, or_false, Nat.reduceEqDiff, Nat.reduceAdd, if_true, if_false, reduceIte, or_true, true_or, or_self] at hj
      have e0 : isV _ (vs 0) w1 := hd 0 (by decide)
      have e1 : isV _ (vs 1) w1 := hd 1 (by decide)
      have e2 : isV _ (vs 2) w1 := hd 2 (by decide)
      have e3 : isV _ (vs 3) w1 := hd 3 (by decide)
      have e4 : isV _ (vs 4) w1 := hd 4 (by decide)
      have e5 : isV _ (vs 5) w1 := hd 5 (by decide)
      have e6 : isV _ (vs 6) w1 := hd 6 (by decide)
      have e7 := hd 7 (by decide); simp only [TR, Nat.reduceAdd, Nat.reduceSub, List.getD_cons_zero, List.getD_cons_succ] at e7
      have e8 : isV _ (vs 8) w1 := hd 8 (by decide)
      have e9 : isV _ (vs 9) w1 := hd 9 (by decide)
      have e10 := hd 10 (by decide); simp only [TR, Nat.reduceAdd, Nat.reduceSub, List.getD_cons_zero, List.getD_cons_succ] at e10
      clear hd
      unfold isV at e0 e1 e2 e3 e4 e5 e6 e8 e9
      simp only [putL, Act.put, List.setIfInBounds_toArray, List.set_cons_zero, List.set_cons_succ, e0, e1, e2, e3, e4, e5, e6, e8, e9]
      clear e0 e1 e2 e3 e4 e5 e6 e8 e9
      --@end
      obtain ⟨A6, c6, e6, o6⟩ := hj
      simp only [e6]
      go_wp2_with fail
      go_roundw
      case rel => exact ⟨k + 1, A6, c6, by omega, rfl, by go_num, Lib.hid (by rw [addr_ints _ _ _ Hx.out]; exact o6), fun h => by omega, Lib.hid (HB.out.trans (R3.belB hb HB.out.size))⟩
      case measure => simp [intOf]; omega
    · obtain rfl : k = q.l.length := by omega
      go_wp2_with fail
      go_ret
      exact ⟨A5, c5, rfl, by have := HO.out; rwa [List.take_length] at this, hz0, HB.out⟩
end Go.Proofs.Ytcidifmikcnkcaa
