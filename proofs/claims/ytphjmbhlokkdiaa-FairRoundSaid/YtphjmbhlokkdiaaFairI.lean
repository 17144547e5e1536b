import Derived.Test.YtphjmbhlokkdiaaFairH
namespace Go.Proofs.Ytphjmbhlokkdiaa
open Go.RowKit Go.Maps Go.WideShapes Go.WideMaps
set_option linter.unusedSimpArgs false
set_option linter.unusedVariables false

set_option maxHeartbeats 1000000 in
theorem fnew_any (Q : Int) (w : World) (h1 : 1 ≤ Q) (h2 : Q ≤ 1000) :
    Calls Try.prog 18 #[.int .i64 Q] w fun e w' => e = .returned (.tuple #[frV Q none 0 0 0 false, .int .i64 0]) ∧ Below w.heap.size w w' := by
  have b1 := below_alloc1 w (.cells frZ.toArray 36)
  have o1 : Own w.heap.size 36 1 (w.alloc (.cells frZ.toArray 36)) (some ⟨w.heap.size, 0, none⟩) 4 4 frZ := new_own w frZ 36 4 rfl (by unfold maxLen; omega)
  simp only [frZ] at b1 o1
  go_enter Try.func18, Try.ntmps18
  go_upto_region 1 with fail
  generalize w.alloc (.cells #[.int .i64 0, .slice none 0 0, .int .i64 0, .bool false] 36) = w1 at *
  have y0 := World.ownsRow.cellAt o1 0 (by omega)
  have y1 := World.ownsRow.cellAt o1 1 (by omega)
  have y2 := World.ownsRow.cellAt o1 2 (by omega)
  have y3 := World.ownsRow.cellAt o1 3 (by omega)
  simp only [List.getElem?_cons_succ, List.getElem?_cons_zero] at y0 y1 y2 y3
  have x0 := World.ownsRow.frozenAt o1 0
  have x1 := World.ownsRow.frozenAt o1 1
  have x2 := World.ownsRow.frozenAt o1 2
  have x3 := World.ownsRow.frozenAt o1 3
  have st := stored4 o1 (.int .i64 Q) (.slice none 0 0) (.int .i64 0) (.bool false)
  go_wp2_with fail
  refine bodyPost_ret (results_cell1 rfl _ _ _ ⟨w.heap.size, 0, none⟩ rfl _ (load_ownF st.1)) rfl ?_
  exact ⟨rfl, b1.grown st.2 b1.size (fun j hj => by cases hj; omega)⟩

def addT (ts : List Tn) (s : List UInt8) (W : Int) : List Tn := ts ++ [⟨s, W, 0⟩]
theorem flatT_snoc (ts : List Tn) (t : Tn) : flatT (ts ++ [t]) = flatT ts ++ t.cells := by simp [flatT]

theorem Own.keptRow {base size n c g : Nat} {e : TypeId} {w w' : World} {A : Option Addr} {cs : List Value} {base' : Nat} (h : Own base e size w (some ⟨g, 0, none⟩) n c cs) (hg : w.grownBy w' (rowOf base' A)) (hne : ∀ a, A = some a → a.block ≠ g) : Own base e size w' (some ⟨g, 0, none⟩) n c cs :=
  World.ownsRow.kept h hg (.inr (by
    simp only [Value.ownBlock, ne_eq]
    intro he
    cases A with
    | none => simp [rowOf] at he
    | some a =>
      simp only [rowOf, Option.bind_some] at he
      by_cases hq : base' ≤ a.block
      · rw [if_pos hq] at he
        exact hne a rfl (by simpa using he.symm)
      · rw [if_neg hq] at he; simp at he))
set_option maxRecDepth 100000 in
set_option maxHeartbeats 8000000 in
theorem fset_any (f : Fr) (s : List UInt8) (W : Int) (A : Option Addr) (d : Nat) (w : World) (hT : Sl w 3 A f.ts.length d (flatT f.ts)) (hr : rightF f = true) (hs : namedB s = true) (hW1 : 1 ≤ W) (hW2 : W ≤ 100) (hp : placeI f.ts s = -1) (hl : f.ts.length < 20) :
    Calls Try.prog 20 #[frV f.Q A f.ts.length d f.At f.H, .string (bstr s), .int .i64 W] w fun e w' => ∃ A' c', e = .returned (.tuple #[frV f.Q A' (addT f.ts s W).length c' f.At f.H, .int .i64 0]) ∧ Sl w' 3 A' (addT f.ts s W).length c' (flatT (addT f.ts s W)) ∧ Below w.heap.size w w' ∧ (∀ a, A' = some a → w.heap.size ≤ a.block) := by
  obtain ⟨m, hm⟩ : ∃ m, m = f.ts.length := ⟨_, rfl⟩
  have hlen : (addT f.ts s W).length = m + 1 := by rw [addT, List.length_append, hm]; rfl
  rw [← hm] at hT hl ⊢
  rw [hlen]
  have Hm := Lib.hid hm
  have Hlen := Lib.hid hlen
  clear hm hlen
  have hQ : 1 ≤ f.Q ∧ f.Q ≤ 1000 := by
    unfold rightF at hr
    simp only [Bool.and_eq_true, decide_eq_true_eq] at hr
    exact ⟨hr.1.1.1.1.1.1, hr.1.1.1.1.1.2⟩
  obtain ⟨w1, hw1⟩ : ∃ w1, w1 = w.alloc (.cells (frC f.Q A m d f.At f.H).toArray 36) := ⟨_, rfl⟩
  have b1 := below_alloc1 w (.cells (frC f.Q A m d f.At f.H).toArray 36)
  have o1 : Own w.heap.size 36 1 (w.alloc (.cells (frC f.Q A m d f.At f.H).toArray 36)) (some ⟨w.heap.size, 0, none⟩) 4 4 (frC f.Q A m d f.At f.H) := new_own w (frC f.Q A m d f.At f.H) 36 4 rfl (by unfold maxLen; omega)
  have n1 : (w.alloc (.cells (frC f.Q A m d f.At f.H).toArray 36)).heap.size = w.heap.size + 1 := by simp
  rw [← hw1] at b1 o1 n1
  have b3 := below_alloc1 w1 (.cells frZ.toArray 36)
  have o3 : Own w1.heap.size 36 1 (w1.alloc (.cells frZ.toArray 36)) (some ⟨w1.heap.size, 0, none⟩) 4 4 frZ := new_own w1 frZ 36 4 rfl (by unfold maxLen; omega)
  have n3 : (w1.alloc (.cells frZ.toArray 36)).heap.size = w1.heap.size + 1 := by simp
  have o1 := o1.below b3
  have o3 := o3.lower (base' := w.heap.size) (by omega)
  have bA := b1.trans (b3.mono (by omega))
  have n3 : (w1.alloc (.cells frZ.toArray 36)).heap.size = w.heap.size + 2 := by omega
  rw [n1] at o3
  subst hw1
  clear b1 b3 n1
  simp only [frC, frZ] at bA n3 o1 o3
  have hT3 := hT.below bA
  unfold frV
  go_enter Try.func20, Try.ntmps20
  go_upto_region 1 with fail
  generalize (w.alloc (.cells #[.int .i64 f.Q, .slice A m d, .int .i64 f.At, .bool f.H] 36)).alloc (.cells #[.int .i64 0, .slice none 0 0, .int .i64 0, .bool false] 36) = w3 at *
  have y0 := World.ownsRow.cellAt o1 0 (by omega)
  have y1 := World.ownsRow.cellAt o1 1 (by omega)
  have y2 := World.ownsRow.cellAt o1 2 (by omega)
  have y3 := World.ownsRow.cellAt o1 3 (by omega)
  simp only [frC, List.getElem?_cons_succ, List.getElem?_cons_zero] at y0 y1 y2 y3
  go_wp2_with fail
  refine (own_any f.Q A m d f.At f.H f.ts _ hT3 (by omega)).mono ?_; rintro x w4 ⟨A', c', rfl, oQ, b4⟩
  have bB := bA.trans (b4.mono (by omega))
  have n4 := b4.size
  have o1 := o1.below b4
  have o3 := o3.below b4
  have oQ := oQ.lower (base' := w.heap.size + 2) (by omega)
  clear y0 y1 y2 y3 hT3 bA b4
  have b5 := below_alloc1 w4 (.cells (frC f.Q A' m c' f.At f.H).toArray 36)
  have oG : Own w4.heap.size 36 1 (w4.alloc (.cells (frC f.Q A' m c' f.At f.H).toArray 36)) (some ⟨w4.heap.size, 0, none⟩) 4 4 (frC f.Q A' m c' f.At f.H) := new_own w4 (frC f.Q A' m c' f.At f.H) 36 4 rfl (by unfold maxLen; omega)
  have oG := oG.lower (base' := w.heap.size + 2) (by omega)
  have hneA : ∀ a, A' = some a → a.block ≠ w4.heap.size := fun a ha => by
    subst ha
    have := (World.ownsRow.lt oQ a.block rfl).2
    omega
  have oQ := oQ.below b5
  have o1 := o1.below b5
  have o3 := o3.below b5
  have bC := bB.trans (b5.mono (by omega))
  have n5 := b5.size
  simp only [frC] at oG b5 oQ o1 o3 bC n5
  clear bB b5
  unfold frV
  go_upto_region 2 with fail
  generalize w4.alloc (.cells #[.int .i64 f.Q, .slice A' m c', .int .i64 f.At, .bool f.H] 36) = w5 at *
  have y0 := World.ownsRow.cellAt o1 0 (by omega)
  have y1 := World.ownsRow.cellAt o1 1 (by omega)
  have y2 := World.ownsRow.cellAt o1 2 (by omega)
  have y3 := World.ownsRow.cellAt o1 3 (by omega)
  simp only [List.getElem?_cons_succ, List.getElem?_cons_zero] at y0 y1 y2 y3
  go_wp2_with fail
  refine (fright_any f A m d _ (hT.below bC) (by omega) (by omega)).mono ?_; rintro x w6 ⟨rfl, b6⟩
  rw [hr]
  have hgx : w.heap.size + 2 ≤ w4.heap.size := by omega
  have oG := oG.below b6
  have oQ := oQ.below b6
  have o1 := o1.below b6
  have o3 := o3.below b6
  have bD := bC.trans (b6.mono (by omega))
  have n6 : w.heap.size + 2 ≤ w6.heap.size := by have := b6.size; omega
  clear y0 y1 y2 y3 bC b6 n3 n4 n5
  have y0 := World.ownsRow.cellAt o1 0 (by omega)
  have y1 := World.ownsRow.cellAt o1 1 (by omega)
  have y2 := World.ownsRow.cellAt o1 2 (by omega)
  have y3 := World.ownsRow.cellAt o1 3 (by omega)
  simp only [List.getElem?_cons_succ, List.getElem?_cons_zero] at y0 y1 y2 y3
  go_wp2_with (go_at_call 60; refine (fnamed_any s _).mono ?_; rintro x w7 ⟨rfl, rfl⟩; rw [hs])
  refine (place_any f.Q A m d f.At f.H f.ts s _ (hT.below bD) (by omega)).mono ?_; rintro x w7 ⟨rfl, b7⟩
  rw [hp]
  have oG := oG.below b7
  have oQ := oQ.below b7
  have o1 := o1.below b7
  have o3 := o3.below b7
  have bE := bD.trans (b7.mono (by omega))
  have n7 : w.heap.size + 2 ≤ w7.heap.size := by have := b7.size; omega
  clear y0 y1 y2 y3 bD b7 n6
  have y1 := World.ownsRow.cellAt o1 1 (by omega)
  have z1 := World.ownsRow.cellAt oG 1 (by omega)
  simp only [List.getElem?_cons_succ, List.getElem?_cons_zero] at y1 z1
  have b8 := below_alloc1 w7 (.cells #[.string (bstr s), .int .i64 W, .int .i64 0] 51)
  have hsl : Sl (w7.alloc (.cells #[.string (bstr s), .int .i64 W, .int .i64 0] 51)) 3 (some ⟨w7.heap.size, 0, none⟩) 1 1 (Tn.cells ⟨s, W, 0⟩) := ⟨(sl_cells w7 (Tn.cells ⟨s, W, 0⟩) 51).cells, rfl, Nat.le_refl _, fun h => by cases h⟩
  have oQ := oQ.below b8
  have oG := oG.below b8
  have o3 := o3.below b8
  have bF := bE.trans (b8.mono (by omega))
  have Hn8 := Lib.hid (show w.heap.size + 2 ≤ (w7.alloc (.cells #[.string (bstr s), .int .i64 W, .int .i64 0] 51)).heap.size by have := b8.size; omega)
  clear bE b8 o1
  go_upto_region 17 with (at_builtin; refine wpList_app _ rfl (.tmp 34) (.tmp 38) 34 rfl (w.heap.size + 2) 51 (Tn.v ⟨[], 0, 0⟩) 3 32 Try.underlying34 infoTn rfl (by decide) A' m c' (flatT f.ts) rfl (.inl oQ) (some ⟨w7.heap.size, 0, none⟩) 1 1 (Tn.cells ⟨s, W, 0⟩) rfl hsl (fun u hu => by simp [Tn.cells] at hu; rcases hu with rfl | rfl | rfl <;> rfl) (by unfold maxLen; omega) (by omega) Hn8.out ?_; intro A10 d8 w8 hat8; have oG8 := Own.keptRow oG hat8.grown hneA; have z9 := World.ownsRow.cellAt oG8 1 (by omega); simp only [List.getElem?_cons_succ, List.getElem?_cons_zero] at z9; have x1 := World.ownsRow.frozenAt oG8 1)
  have o8 := Own.keptRow o3 hat8.grown (fun a ha he => by
    subst ha
    have := (World.ownsRow.lt oQ a.block rfl).1
    omega)
  have bG := bF.grown hat8.grown (by have := Hn8.out; omega) (fun j hj => by have := rowOf_ge hj; omega)
  have s8 := hat8.app.sl
  have st := World.ownsRow.stored oG8 1 (.slice A10 (m + 1) d8)
  have hgg := World.ownsRow.lt oG8 w4.heap.size rfl
  have o9 := Own.apart o8 st.2 (by omega)
  have s9 : Sl (w8.setCell ⟨w4.heap.size, 1, none⟩ (.slice A10 (m + 1) d8)) 3 A10 (m + 1) d8 (flatT f.ts ++ Tn.cells ⟨s, W, 0⟩) := s8.grown st.2 (fun a ha he => by
    have e1 : a.block = w4.heap.size := Option.some.inj he
    rcases hat8.lies a ha with ⟨a0, h0, e0⟩ | h1
    · exact hneA a0 h0 (by omega)
    · have := (World.ownsRow.lt oG w4.heap.size rfl).2; omega)
  have oG9 := st.1
  have HA10 := Lib.hid (show ∀ a, A10 = some a → w.heap.size + 2 ≤ a.block from fun a ha => by
    rcases hat8.lies a ha with ⟨a0, h0, e0⟩ | h1
    · subst h0
      have := (World.ownsRow.lt oQ a0.block rfl).1
      omega
    · have := Hn8.out; omega)
  have bH := bG.grown st.2 (by have := bG.size; omega) (fun j hj => by cases hj; omega)
  clear z9 x1 st s8 hat8 oG8 o8 bG oQ oG o3 bF hsl
  generalize w8.setCell ⟨w4.heap.size, 1, none⟩ (.slice A10 (m + 1) d8) = w9 at *
  clear y1 z1
  have y0 := World.ownsRow.cellAt oG9 0 (by omega)
  have y1 := World.ownsRow.cellAt oG9 1 (by omega)
  have y2 := World.ownsRow.cellAt oG9 2 (by omega)
  have y3 := World.ownsRow.cellAt oG9 3 (by omega)
  simp only [List.set_cons_zero, List.set_cons_succ, List.getElem?_cons_succ, List.getElem?_cons_zero] at y0 y1 y2 y3
  have z0 := World.ownsRow.cellAt o9 0 (by omega)
  have z1 := World.ownsRow.cellAt o9 1 (by omega)
  have z2 := World.ownsRow.cellAt o9 2 (by omega)
  have z3 := World.ownsRow.cellAt o9 3 (by omega)
  simp only [List.getElem?_cons_succ, List.getElem?_cons_zero] at z0 z1 z2 z3
  have x0 := World.ownsRow.frozenAt o9 0
  have x1 := World.ownsRow.frozenAt o9 1
  have x2 := World.ownsRow.frozenAt o9 2
  have x3 := World.ownsRow.frozenAt o9 3
  have st := stored4 o9 (.int .i64 f.Q) (.slice A10 (m + 1) d8) (.int .i64 f.At) (.bool f.H)
  have hlt9 := World.ownsRow.lt o9 (w.heap.size + 1) rfl
  have hsF := s9.grown st.2 (fun a ha he => by
    have e1 : a.block = w.heap.size + 1 := Option.some.inj he
    have := HA10.out a ha
    omega)
  go_wp2_with fail
  refine bodyPost_ret (results_cell1 rfl _ _ _ ⟨w.heap.size + 1, 0, none⟩ rfl _ (load_ownF st.1)) rfl ?_
  exact ⟨A10, d8, rfl, by rw [addT, flatT_snoc]; exact hsF, bH.grown st.2 bH.size (fun j hj => by cases hj; omega), fun a ha => by have := HA10.out a ha; omega⟩
end Go.Proofs.Ytphjmbhlokkdiaa
