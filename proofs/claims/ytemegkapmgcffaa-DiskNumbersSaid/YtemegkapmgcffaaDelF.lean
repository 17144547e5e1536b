import Derived.Test.YtemegkapmgcffaaDkF
/- slices.Delete of one file. -/
namespace Go.Proofs.Ytemegkapmgcffaa
open Go.RowKit
set_option linter.unusedSimpArgs false
set_option linter.unusedVariables false

theorem grown_setRow (w : World) (g : Nat) (cs : Array Value) : w.grownBy (w.setRow g cs) (some g) :=
  ⟨rfl, rfl, rfl, by simp [World.setRow], fun k hk hne => setRow_other w g k _ (fun e => hne (by rw [e]))⟩
set_option maxRecDepth 100000 in
set_option maxHeartbeats 8000000 in
theorem delF_any (base g n c i : Nat) (F : List Value) (w : World) (ho : Own base 117 3 w (some ⟨g, 0, none⟩) n c F) (hn : n ≤ 1000000) (hi : i < n) (hF1 : ∀ u ∈ F, u.oneCell' = true) :
    Calls Try.prog 93 #[.slice (some ⟨g, 0, none⟩) n c, .int .i64 (i : Int), .int .i64 ((i : Int) + 1)] w fun e w' => e = .returned (.slice (some ⟨g, 0, none⟩) (n - 1) c) ∧ Own base 117 3 w' (some ⟨g, 0, none⟩) (n - 1) c (F.take (i * 3) ++ F.drop ((i + 1) * 3)) ∧ w.grownBy w' (some g) := by
  have ho0 := ho
  obtain ⟨hFl, ho2⟩ := ho
  rcases ho2 with ⟨h, _⟩ | ⟨g', cap, cur, h, hbg, hg, hle, hcm, hcs, htk⟩
  · simp at h
  simp at h
  obtain ⟨rfl, rfl⟩ := h
  have hcm2 : c ≤ 9223372036854775807 := by unfold maxLen at hcm; exact hcm
  obtain ⟨i0, hi0, hz, hs2, hby⟩ := info_parts infoIF
  obtain ⟨B, hB⟩ : ∃ B : Addr, B = if c = i + 1 then ⟨g, 0, none⟩ else (⟨g, 0, none⟩ : Addr).add ((i + 1) * 3) := ⟨_, rfl⟩
  have hel : Try.prog.elem 35 = 117 := by simp [Program.elem, Try.underlying35]
  have hAX1 : ∀ W, (Instr.slice 35 (.slice (some ⟨g, 0, none⟩) n c) (some (.int .i64 ((i : Int) + 1))) none none).run Try.prog W = .ok (.slice (some B) (n - (i + 1)) (c - (i + 1))) W := by
    intro W
    have h := run_slice_l W 35 (some (⟨g, 0, none⟩ : Addr)) n c (by rw [hel]; exact Try.underlying35) .i64 ((i : Int) + 1) (by omega) (by omega)
    rw [h, hel]
    have ht : ((i : Int) + 1).toNat = i + 1 := by omega
    simp [sizeOf, typeInfo, hi0, sliced, Result.andThen, hs2, ht, hB]
    split <;> simp_all
  have hsF : Sl w 3 (some B) (n - (i + 1)) (c - (i + 1)) (F.drop ((i + 1) * 3)) := by
    have h := (Own.sl ho0).from_ (i + 1) (by omega)
    rw [hB]
    by_cases hc : c = i + 1
    · rw [if_pos hc] at h ⊢; exact h
    · rw [if_neg hc] at h ⊢; exact h
  have HCT := Lib.hid (fun W => cut_to (P := Try.prog) 35 117 .i64 Try.underlying35 hi0 (some (⟨g, 0, none⟩ : Addr)) n c i (i : Int) rfl (by omega) W)
  have HCF := Lib.hid hAX1
  obtain ⟨N1, hN1⟩ : ∃ N1, N1 = n - 1 := ⟨_, rfl⟩
  obtain ⟨new, hnew⟩ : ∃ new, new = (splice cur.toList (i * 3) (F.drop ((i + 1) * 3))).toArray := ⟨_, rfl⟩
  have hdl : (F.drop ((i + 1) * 3)).length = (n - (i + 1)) * 3 := by rw [List.length_drop, hFl]; omega
  have HNew := Lib.hid hnew
  have HRun := Lib.hid (show ∀ w1 : World, w1.heap[g]? = some (.cells cur 117 (0, 0)) → ∀ ty, (Builtin.append_ #[35, 35] ty #[.slice (some ⟨g, 0, none⟩) i c, .slice (some B) (n - (i + 1)) (c - (i + 1))]).run Try.prog w1 = .ok (.slice (some ⟨g, 0, none⟩) N1 c) (w1.setRow g (splice cur.toList (i * 3) (F.drop ((i + 1) * 3))).toArray) from fun w1 h1 ty => by
    have hsl : Sl w1 3 (some B) (n - (i + 1)) (c - (i + 1)) (F.drop ((i + 1) * 3)) := sl_same hsF (fun a ha => by
      cases ha
      have : B.block = g := by rw [hB]; split <;> simp [add_block]
      rw [this, h1, hg])
    have h := run_app_room (P := Try.prog) w1 35 ty 117 i0 3 Try.underlying35 hi0 hs2 g i c cur 117 h1 B (n - (i + 1)) (c - (i + 1)) (F.drop ((i + 1) * 3)) hdl (fun j u hj => by obtain ⟨ad, e, h⟩ := hsl.cells j u hj; cases e; exact h) (fun u hu => hF1 u (List.mem_of_mem_drop hu)) (by omega) hcs
    rw [h, hN1, show i + (n - (i + 1)) = n - 1 by omega])
  have Hg := Lib.hid hg
  have Hcs := Lib.hid hcs
  have Htk := Lib.hid htk
  have HFl := Lib.hid hFl
  have HN1 := Lib.hid hN1
  have Hdl := Lib.hid hdl
  have hwk : IntKind.i64.wrap ((i : Int) + 1) = (i : Int) + 1 := by rw [IntKind.wrap_i64]; omega
  clear hg hcs htk hFl hN1 hAX1 hsF hnew hdl ho0 hB
  go_enter Try.func93, Try.ntmps93
  go_upto_region 5 with fail
  --@region 93 5 del5.spec
  refine wp_region_runE [6, 7] (fun _ w => w.heap[g]? = some (.cells cur 117 (0, 0))) (by kernel_rfl) (by kernel_rfl) (by kernel_rfl) (R := Rr g) (fun _ _ h => below_grownBy h _) (fun _ _ _ => World.grownBy.trans) (fun _ _ _ hb hj => (hb.block g (Array.getElem?_eq_some_iff.1 hj).1).trans hj) Hg.out ?_
  apply RunE.pure (by decide)
  · intro vs w hb hd; clear hd; simp only [List.take, putL, Act.put, List.setIfInBounds_toArray, List.set_cons_zero, List.set_cons_succ]; unfold StepOK; go_simp; exact ⟨Below.refl _ _, isV_mk _ _⟩
  apply RunE.pure (by decide)
  · intro vs w hb hd; clear hd; simp only [List.take, putL, Act.put, List.setIfInBounds_toArray, List.set_cons_zero, List.set_cons_succ]; unfold StepOK; go_simp; exact ⟨Below.refl _ _, isV_mk _ _⟩
  apply RunE.pure (by decide)
  · intro vs w hb hd; have d0 : isV _ (vs 0) w := hd 0 (by decide) (by kernel_rfl); unfold isV at d0; have d1 : isV _ (vs 1) w := hd 1 (by decide) (by kernel_rfl); unfold isV at d1; clear hd; have hx1 := HCT.out w; simp only [List.take, putL, Act.put, List.setIfInBounds_toArray, List.set_cons_zero, List.set_cons_succ]; unfold StepOK; go_simp; exact ⟨Below.refl _ _, isV_mk _ _⟩
  apply RunE.pure (by decide)
  · intro vs w hb hd; clear hd; simp only [List.take, putL, Act.put, List.setIfInBounds_toArray, List.set_cons_zero, List.set_cons_succ]; unfold StepOK; go_simp; exact ⟨Below.refl _ _, isV_mk _ _⟩
  apply RunE.pure (by decide)
  · intro vs w hb hd; clear hd; simp only [List.take, putL, Act.put, List.setIfInBounds_toArray, List.set_cons_zero, List.set_cons_succ]; unfold StepOK; go_simp; exact ⟨Below.refl _ _, isV_mk _ _⟩
  apply RunE.pure (by decide)
  · intro vs w hb hd; have d3 : isV _ (vs 3) w := hd 3 (by decide) (by kernel_rfl); unfold isV at d3; have d4 : isV _ (vs 4) w := hd 4 (by decide) (by kernel_rfl); unfold isV at d4; clear hd; have hx1 := HCF.out w; simp only [List.take, putL, Act.put, List.setIfInBounds_toArray, List.set_cons_zero, List.set_cons_succ]; unfold StepOK; go_simp; exact ⟨Below.refl _ _, isV_mk _ _⟩
  refine RunE.eff (by decide) ((fun v w => v = .slice (some ⟨g, 0, none⟩) N1 c ∧ w.heap[g]? = some (.cells new 117 (0, 0)))) ((fun _ _ _ hb hj => ⟨hj.1, (hb.block g (Array.getElem?_eq_some_iff.1 hj.2).1).trans hj.2⟩)) ?_ ?_
  · intro vs w hb hd hj; have d2 : isV _ (vs 2) w := hd 2 (by decide) (by kernel_rfl); unfold isV at d2; have d5 : isV _ (vs 5) w := hd 5 (by decide) (by kernel_rfl); unfold isV at d5; clear hd; have hj2 := hj; (try simp only [prevE, lastV, List.mem_cons, List.not_mem_nil, or_false, Nat.reduceEqDiff, Nat.reduceAdd, if_true, if_false, reduceIte, or_true, true_or, or_self] at hj2); clear hj; have hrun := HRun.out w hj2; exact stepE_app rfl (.tmp 22) (.tmp 25) 35 rfl (by simp [Act.eval, putL, Act.put, d2]) (by simp [Act.eval, putL, Act.put, d5]) (hrun _) (grown_setRow w g _) ⟨rfl, by rw [HNew.out]; exact setRow_heap w g cur _ 117 (0, 0) hj2⟩
  refine RunE.eff (by decide) ((fun v w => v = .slice (some ⟨g, 0, none⟩) N1 c ∧ w.heap[g]? = some (.cells new 117 (0, 0)))) ((fun _ _ _ hb hj => ⟨hj.1, (hb.block g (Array.getElem?_eq_some_iff.1 hj.2).1).trans hj.2⟩)) ?_ ?_
  · intro vs w hb hd hj; have d0 : isV _ (vs 0) w := hd 0 (by decide) (by kernel_rfl); unfold isV at d0; have d1 : isV _ (vs 1) w := hd 1 (by decide) (by kernel_rfl); unfold isV at d1; have d2 : isV _ (vs 2) w := hd 2 (by decide) (by kernel_rfl); unfold isV at d2; have d3 : isV _ (vs 3) w := hd 3 (by decide) (by kernel_rfl); unfold isV at d3; have d4 : isV _ (vs 4) w := hd 4 (by decide) (by kernel_rfl); unfold isV at d4; have d5 : isV _ (vs 5) w := hd 5 (by decide) (by kernel_rfl); unfold isV at d5; clear hd; have hj2 := hj; (try simp only [prevE, lastV, List.mem_cons, List.not_mem_nil, or_false, Nat.reduceEqDiff, Nat.reduceAdd, if_true, if_false, reduceIte, or_true, true_or, or_self] at hj2); clear hj; obtain ⟨e13, o13⟩ := hj2; simp only [List.take, putL, Act.put, List.setIfInBounds_toArray, List.set_cons_zero, List.set_cons_succ]; unfold StepE; go_simp; first | exact World.grownBy.refl _ _ | exact ⟨World.grownBy.refl _ _, o13⟩ | exact ⟨World.grownBy.refl _ _, rfl, o13⟩
  intro vs w1 hb hd hj
  try simp only [prevE, lastV, List.mem_cons, List.not_mem_nil, or_false, Nat.reduceEqDiff, Nat.reduceAdd, if_true, if_false, reduceIte, or_true, true_or, or_self] at hj
  have e0 : isV _ (vs 0) w1 := hd 0 (by decide)
  have e1 : isV _ (vs 1) w1 := hd 1 (by decide)
  have e2 : isV _ (vs 2) w1 := hd 2 (by decide)
  have e3 : isV _ (vs 3) w1 := hd 3 (by decide)
  have e4 : isV _ (vs 4) w1 := hd 4 (by decide)
  have e5 : isV _ (vs 5) w1 := hd 5 (by decide)
  clear hd
  unfold isV at e0 e1 e2 e3 e4 e5
  simp only [putL, Act.put, List.setIfInBounds_toArray, List.set_cons_zero, List.set_cons_succ, e0, e1, e2, e3, e4, e5]
  clear e0 e1 e2 e3 e4 e5
  --@end
  obtain ⟨eS, hg2⟩ := hj
  simp only [Nat.reduceAdd, eS]
  clear eS
  have hnl : new.toList.length = cur.size := by
    rw [HNew.out, List.toList_toArray, length_splice _ _ _ (by rw [Hdl.out]; have := Hcs.out; simp only [Array.length_toList]; omega)]
    simp
  have hz1 : ∀ u ∈ (Builtin.zeroCells (Value.agg #[.string { data := #[] }, .slice none 0 0, .int .i64 0]).cells 1).toList, u.oneCell' = true := by
    intro u hu
    simp only [Builtin.zeroCells, Value.cells, Array.toList_map, List.mem_map, Array.toList_range] at hu
    obtain ⟨q, _, rfl⟩ := hu
    have : q % 3 = 0 ∨ q % 3 = 1 ∨ q % 3 = 2 := by omega
    rcases this with e | e | e <;> simp [e, Value.oneCell']
  have hfit : N1 * 3 + 1 * 3 ≤ new.size := by
    have h1 : new.size = cur.size := by rw [← Array.length_toList]; exact hnl
    have h2 := Hcs.out
    have h3 := HN1.out
    omega
  have hcl : ∀ ty, (Builtin.clear_ #[35] ty #[.slice (some ⟨g, N1 * 3, none⟩) 1 (c - N1)]).run Try.prog w1 = .ok (.tuple #[]) (w1.setRow g (splice new.toList (N1 * 3) (Builtin.zeroCells (Value.agg #[.string { data := #[] }, .slice none 0 0, .int .i64 0]).cells 1).toList).toArray) := fun ty =>
    run_clearN w1 35 ty 117 i0 (.agg #[.string { data := #[] }, .slice none 0 0, .int .i64 0]) 3 Try.underlying35 hi0 hz rfl g (N1 * 3) 1 (c - N1) new 117 hg2 hz1 hfit
  have Hgr := Lib.hid (show w.grownBy w1 (some g) from hb)
  have Hg2 := Lib.hid hg2
  have Hnl := Lib.hid hnl
  have hNs : n - N1 = 1 := by have := HN1.out; omega
  obtain ⟨Z, hZ⟩ : ∃ Z, Z = (Builtin.zeroCells (Value.agg #[.string { data := #[] }, .slice none 0 0, .int .i64 0]).cells 1).toList := ⟨_, rfl⟩
  have hZl0 : Z.length = 3 := by rw [hZ, Array.length_toList, size_zeroCells]; rfl
  have HZl := Lib.hid hZl0
  have hcl2 : ∀ ty, (Builtin.clear_ #[35] ty #[.slice (some ⟨g, N1 * 3, none⟩) (n - N1) (c - N1)]).run Try.prog w1 = .ok (.tuple #[]) (w1.setRow g (splice new.toList (N1 * 3) Z).toArray) := fun ty => by
    rw [hNs, hZ]; exact hcl ty
  have hNc : ¬ (c = N1) := by have := HN1.out; omega
  have hNle : N1 < n := by have := HN1.out; omega
  have hnc : n ≤ c := by omega
  clear hNs hcl hZ hZl0
  clear hb hg2 hnl hz1 hfit
  go_wp2_with (at_builtin; refine wpList_clearR _ rfl (.tmp 31) 35 rfl _ rfl (hcl2 _) ?_)
  go_ret
  have hN1 := HN1.out
  have hFl := HFl.out
  have hcs := Hcs.out
  have hZl := HZl.out
  refine ⟨by rw [hN1]; rfl, ⟨?_, .inr ⟨g, c, _, rfl, hbg, setRow_heap _ g _ _ 117 (0, 0) Hg2.out, by omega, hcm, ?_, ?_⟩⟩, Hgr.out.trans (grown_setRow _ g _)⟩
  · rw [List.length_append, List.length_take, Hdl.out, hFl]; omega
  · rw [List.size_toArray, length_splice _ _ _ (by rw [hZl, Hnl.out]; omega), Hnl.out]; exact hcs
  · have htl : (F.take (i * 3)).length = i * 3 := by rw [List.length_take, hFl]; omega
    have hpre : cur.toList.take (i * 3) = F.take (i * 3) := by rw [← Htk.out, List.take_take, Nat.min_eq_left (by omega)]
    rw [List.toList_toArray, hN1]
    have e1 : (splice new.toList ((n - 1) * 3) Z).take ((n - 1) * 3) = new.toList.take ((n - 1) * 3) := by
      unfold splice
      rw [List.take_append_of_le_length (by rw [List.length_take, Hnl.out]; omega), List.take_take, Nat.min_self]
    rw [e1, HNew.out, List.toList_toArray]
    unfold splice
    rw [hpre, ← List.append_assoc, List.take_append_of_le_length (by rw [List.length_append, htl, Hdl.out]; omega), List.take_of_length_le (by rw [List.length_append, htl, Hdl.out]; omega)]
end Go.Proofs.Ytemegkapmgcffaa
