import Derived.Test.YtemegkapmgcffaaMDe
/- The disk: deeds (large, does). -/
namespace Go.Proofs.Ytemegkapmgcffaa
open Go.RowKit
set_option linter.unusedSimpArgs false
set_option linter.unusedVariables false

def largeB (d : Ded) : Bool := decide (100 < d.a.length) || (decide (100 < d.t2.length) || (decide (300 < d.b.length) || (decide (50 < d.ks.length) || decide (50 < d.ts.length))))
theorem small_of {d : Ded} (h : largeB d = false) : d.a.length ≤ 100 ∧ d.t2.length ≤ 100 ∧ d.b.length ≤ 300 ∧ d.ks.length ≤ 50 ∧ d.ts.length ≤ 50 := by
  unfold largeB at h
  simp only [Bool.or_eq_false_iff, decide_eq_false_iff_not] at h
  omega
def doesD (D : Dk) (d : Ded) : Int × Dk :=
  if d.op ≤ 2 then appendD D d.a d.b else if d.op = 3 then syncD D d.a else if d.op = 4 then renameD D d.a d.t2 else if d.op = 5 then removeD D d.a
  else if d.op = 6 then cutD D d.a d.n else if d.op = 7 then (0, armD D d.n) else if d.op = 8 then (0, crashD D d.ks d.ts) else (0, D)
theorem box_cellsN (w : World) (cs : List Value) (t : TypeId) (j : Nat) (u : Value) (h : cs[j]? = some u) : (w.alloc (.cells cs.toArray t)).cell? ⟨w.heap.size, j, none⟩ = some u := by
  obtain ⟨a, h1, h2⟩ := (sl_cells w cs t).cells j u h
  cases h1
  rwa [add_plain] at h2
set_option maxRecDepth 100000 in
set_option maxHeartbeats 4000000 in
theorem large_any {w0 : World} (d : Ded) (hd : OkDed w0 d) (w : World) : Calls Try.prog 46 #[.agg (dedC d).toArray] w fun x w' => x = .returned (.bool (largeB d)) ∧ Below w.heap.size w w' := by
  have s1 : (bstr d.a).size = d.a.length := rfl
  have s2 : (bstr d.t2).size = d.t2.length := rfl
  have HL := Lib.hid (show largeB d = (decide (100 < d.a.length) || (decide (100 < d.t2.length) || (decide (300 < d.b.length) || (decide (50 < d.ks.length) || decide (50 < d.ts.length))))) from rfl)
  have hb := below_alloc1 w (.cells (dedC d).toArray 70)
  have c1 := box_cellsN w (dedC d) 70 1 _ rfl
  have c2 := box_cellsN w (dedC d) 70 2 _ rfl
  have c3 := box_cellsN w (dedC d) 70 3 _ rfl
  have c5 := box_cellsN w (dedC d) 70 5 _ rfl
  have c6 := box_cellsN w (dedC d) 70 6 _ rfl
  have ha := hd.a
  have ht := hd.t2
  have hbl := hd.b.2
  have hk := hd.ks.2.1
  have hts := hd.ts.2.1
  go_enter Try.func46, Try.ntmps46
  go_wp2_with fail
  all_goals
    go_ret
    refine ⟨ret_bool ?_, hb⟩
    rw [HL.out]
    simp only [Bool.or_eq_true, decide_eq_true_eq, true_iff]
    omega
theorem sl_old {w0 : World} {A : Option Addr} {n c : Nat} {vs : List Value} (h : Sl w0 1 A n c vs) (hne : vs ≠ []) : ∀ a, A = some a → a.block < w0.heap.size := by
  intro a ha
  subst ha
  obtain ⟨v, r, rfl⟩ := List.exists_cons_of_ne_nil hne
  obtain ⟨ad, h1, h2⟩ := h.cells 0 v rfl
  cases h1
  have := World.block_lt_of_cell? _ _ h2
  rwa [add_block] at this
section
variable {w0 W : World} {base p : Nat} {D : Dk} {F : Nat → Prop}
set_option maxRecDepth 100000 in
set_option maxHeartbeats 8000000 in
/-- w0: the world in which the deed came in; the disk is newer -/
theorem does_any (h : DkIs W base p D F) (d : Ded) (hd0 : OkDed w0 d) (hd : OkDed W d) (hbase : w0.heap.size ≤ base) (hl : largeB d = false) :
    Calls Try.prog 47 #[.pointer (some ⟨p, 0, none⟩), .agg (dedC d).toArray] W fun x w' => x = .returned (.int .i64 (doesD D d).1) ∧ ∃ F', DkIs w' base p (doesD D d).2 F' ∧ Cg F F' W w' := by
  obtain ⟨la, lt, lb, lk, ls⟩ := small_of hl
  have hb := below_alloc1 W (.cells (dedC d).toArray 70)
  have c0 := box_cellsN W (dedC d) 70 0 _ rfl
  have c1 := box_cellsN W (dedC d) 70 1 _ rfl
  have c2 := box_cellsN W (dedC d) 70 2 _ rfl
  have c3 := box_cellsN W (dedC d) 70 3 _ rfl
  have c4 := box_cellsN W (dedC d) 70 4 _ rfl
  have c5 := box_cellsN W (dedC d) 70 5 _ rfl
  have c6 := box_cellsN W (dedC d) 70 6 _ rfl
  have hop := hd0.op
  obtain ⟨o, ho⟩ : ∃ o, o = d.op := ⟨_, rfl⟩
  have HO := Lib.hid ho
  have c00 : (W.alloc (.cells (dedC d).toArray 70)).cell? ⟨W.heap.size, 0, none⟩ = some (.int .u8 o) := by rw [ho]; exact c0
  rw [← ho] at hop
  clear ho c0
  obtain ⟨W1, hW1⟩ : ∃ W1, W1 = W.alloc (.cells (dedC d).toArray 70) := ⟨_, rfl⟩
  rw [← hW1] at hb c1 c2 c3 c4 c5 c6
  have HW1 := Lib.hid hW1
  have Hb := Lib.hid hb
  have H := Lib.hid (h.below hb)
  have Hd := Lib.hid (hd.below hb)
  have Hd0 := Lib.hid hd0
  have hF : ∀ q, F q → base ≤ q := fun q hq => (h.bound q hq).1
  have HbF := Lib.hid (show ∀ a, d.bA = some a → d.b ≠ [] → ¬ F a.block from fun a ha hne hf => by
    have := sl_old Hd0.out.b.1 (by simpa [bytesV] using hne) a ha
    have := hF _ hf; omega)
  have HkF := Lib.hid (show ∀ a, d.kA = some a → d.ks ≠ [] → ¬ F a.block from fun a ha hne hf => by
    have := sl_old Hd0.out.ks.1 (by simpa [intsV] using hne) a ha
    have := hF _ hf; omega)
  have HtF := Lib.hid (show ∀ a, d.tA = some a → d.ts ≠ [] → ¬ F a.block from fun a ha hne hf => by
    have := sl_old Hd0.out.ts.1 (by simpa [intsV] using hne) a ha
    have := hF _ hf; omega)
  obtain ⟨r, hr⟩ : ∃ r, doesD D d = r := ⟨_, rfl⟩
  have HR := Lib.hid hr
  rw [hr]
  have H3 : ∀ {w' : World} {F' : Nat → Prop}, Cg F F' W1 w' → Cg F F' W w' := fun hc => (Cg.below Hb.out).trans hc
  have hd4 := d.n
  clear h hd hd0 hW1 hb hr hF
  go_enter Try.func47, Try.ntmps47
  go_upto_region 2 with fail
  rw [← HW1.out]
  clear HW1 c00
  have hmx : maxLen = 9223372036854775807 := rfl
  obtain h | h | h | h | h | h | h | h | h | h : o = 0 ∨ o = 1 ∨ o = 2 ∨ o = 3 ∨ o = 4 ∨ o = 5 ∨ o = 6 ∨ o = 7 ∨ o = 8 ∨ 9 ≤ o := by omega
  · subst h
    have hr : appendD D d.a d.b = r := by rw [← HR.out]; unfold doesD; simp [← HO.out]
    have Hr := Lib.hid hr
    clear hr
    go_wp2_with fail
    refine (Append_any H.out d.a (by omega) Hd.out.b.1 HbF.out (by omega)).mono ?_
    rintro x w5 ⟨rfl, F', k2, k3⟩
    have K2 := Lib.hid k2
    have K3 := Lib.hid (H3 k3)
    clear k2 k3 H3
    go_wp2_with fail
    go_ret
    exact ⟨by rw [← Hr.out]; rfl, _, by rw [← Hr.out]; exact K2.out, K3.out⟩
  · subst h
    have hr : appendD D d.a d.b = r := by rw [← HR.out]; unfold doesD; simp [← HO.out]
    have Hr := Lib.hid hr
    clear hr
    go_wp2_with fail
    refine (Append_any H.out d.a (by omega) Hd.out.b.1 HbF.out (by omega)).mono ?_
    rintro x w5 ⟨rfl, F', k2, k3⟩
    have K2 := Lib.hid k2
    have K3 := Lib.hid (H3 k3)
    clear k2 k3 H3
    go_wp2_with fail
    go_ret
    exact ⟨by rw [← Hr.out]; rfl, _, by rw [← Hr.out]; exact K2.out, K3.out⟩
  · subst h
    have hr : appendD D d.a d.b = r := by rw [← HR.out]; unfold doesD; simp [← HO.out]
    have Hr := Lib.hid hr
    clear hr
    go_wp2_with fail
    refine (Append_any H.out d.a (by omega) Hd.out.b.1 HbF.out (by omega)).mono ?_
    rintro x w5 ⟨rfl, F', k2, k3⟩
    have K2 := Lib.hid k2
    have K3 := Lib.hid (H3 k3)
    clear k2 k3 H3
    go_wp2_with fail
    go_ret
    exact ⟨by rw [← Hr.out]; rfl, _, by rw [← Hr.out]; exact K2.out, K3.out⟩
  · subst h
    have hr : syncD D d.a = r := by rw [← HR.out]; unfold doesD; simp [← HO.out]
    have Hr := Lib.hid hr
    clear hr
    go_wp2_with fail
    refine (Sync_any H.out d.a).mono ?_
    rintro x w5 ⟨rfl, F', k2, k3⟩
    have K2 := Lib.hid k2
    have K3 := Lib.hid (H3 k3)
    clear k2 k3 H3
    go_wp2_with fail
    go_ret
    exact ⟨by rw [← Hr.out]; rfl, _, by rw [← Hr.out]; exact K2.out, K3.out⟩
  · subst h
    have hr : renameD D d.a d.t2 = r := by rw [← HR.out]; unfold doesD; simp [← HO.out]
    have Hr := Lib.hid hr
    clear hr
    go_wp2_with fail
    refine (Rename_any H.out d.a d.t2 (by omega)).mono ?_
    rintro x w5 ⟨rfl, F', k2, k3⟩
    have K2 := Lib.hid k2
    have K3 := Lib.hid (H3 k3)
    clear k2 k3 H3
    go_wp2_with fail
    go_ret
    exact ⟨by rw [← Hr.out]; rfl, _, by rw [← Hr.out]; exact K2.out, K3.out⟩
  · subst h
    have hr : removeD D d.a = r := by rw [← HR.out]; unfold doesD; simp [← HO.out]
    have Hr := Lib.hid hr
    clear hr
    go_wp2_with fail
    refine (Remove_any H.out d.a).mono ?_
    rintro x w5 ⟨rfl, F', k2, k3⟩
    have K2 := Lib.hid k2
    have K3 := Lib.hid (H3 k3)
    clear k2 k3 H3
    go_wp2_with fail
    go_ret
    exact ⟨by rw [← Hr.out]; rfl, _, by rw [← Hr.out]; exact K2.out, K3.out⟩
  · subst h
    have hr : cutD D d.a d.n = r := by rw [← HR.out]; unfold doesD; simp [← HO.out]
    have Hr := Lib.hid hr
    clear hr
    go_wp2_with fail
    refine (Cut_any H.out d.a d.n).mono ?_
    rintro x w5 ⟨rfl, F', k2, k3⟩
    have K2 := Lib.hid k2
    have K3 := Lib.hid (H3 k3)
    clear k2 k3 H3
    go_wp2_with fail
    go_ret
    exact ⟨by rw [← Hr.out]; rfl, _, by rw [← Hr.out]; exact K2.out, K3.out⟩
  · subst h
    have hr : (0, armD D d.n) = r := by rw [← HR.out]; unfold doesD; simp [← HO.out]
    have Hr := Lib.hid hr
    clear hr
    go_wp2_with fail
    refine (Arm_any H.out d.n (Hd0.out.n.2)).mono ?_
    rintro x w5 ⟨rfl, k2, k3⟩
    have K2 := Lib.hid k2
    have K3 := Lib.hid (H3 k3)
    clear k2 k3 H3
    go_wp2_with fail
    go_ret
    exact ⟨by rw [← Hr.out]; rfl, _, by rw [← Hr.out]; exact K2.out, K3.out⟩
  · subst h
    have hr : (0, crashD D d.ks d.ts) = r := by rw [← HR.out]; unfold doesD; simp [← HO.out]
    have Hr := Lib.hid hr
    clear hr
    go_wp2_with fail
    refine (Crash_any H.out Hd.out.ks.1 Hd.out.ts.1 HkF.out HtF.out (by omega) (by omega) (fun x hx => (Hd.out.ks.2.2 x hx).2) (fun x hx => (Hd.out.ts.2.2 x hx).2)).mono ?_
    rintro x w5 ⟨rfl, F', k2, k3⟩
    have K2 := Lib.hid k2
    have K3 := Lib.hid (H3 k3)
    clear k2 k3 H3
    go_wp2_with fail
    go_ret
    exact ⟨by rw [← Hr.out]; rfl, _, by rw [← Hr.out]; exact K2.out, K3.out⟩
  · have hr : (0, D) = r := by rw [← HR.out]; unfold doesD; rw [← HO.out]; repeat rw [if_neg (by omega)]
    have Hr := Lib.hid hr
    have K3 := Lib.hid (H3 (Cg.below (Below.refl _ _)))
    clear hr H3
    have q0 : (o == 0) = false := by simp; omega
    have q1 : (o == 1) = false := by simp; omega
    have q2 : (o == 2) = false := by simp; omega
    have q3 : (o == 3) = false := by simp; omega
    have q4 : (o == 4) = false := by simp; omega
    have q5 : (o == 5) = false := by simp; omega
    have q6 : (o == 6) = false := by simp; omega
    have q7 : (o == 7) = false := by simp; omega
    have q8 : (o == 8) = false := by simp; omega
    go_wp2_with fail
    go_ret
    exact ⟨by rw [← Hr.out]; rfl, _, by rw [← Hr.out]; exact H.out, K3.out⟩
end
end Go.Proofs.Ytemegkapmgcffaa
