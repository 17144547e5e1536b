import Derived.Test.YtphjmbhlokkdiaaFairK
namespace Go.Proofs.Ytphjmbhlokkdiaa
open Go.RowKit Go.Maps Go.WideShapes Go.WideMaps
set_option linter.unusedSimpArgs false
set_option linter.unusedVariables false

/-- two queues of weights 1 and n: the turns ahead of a pick -/
def twoF (q : Int) (n : Nat) (la lb : Int) (at_ : Int) (h : Bool) : Fr := ⟨q, [⟨[97], 1, la⟩, ⟨[98], (n : Int), lb⟩], at_, h⟩
def preW (q : Int) (n t : Nat) : Fr := if t = 0 then twoF q n 0 0 0 false else if t = 1 then twoF q n 0 0 0 true else twoF q n 0 (((n + 1 - t : Nat) : Int) * q) 1 true
def hsW (q : Int) : List Hd := [⟨[98], q⟩, ⟨[97], q⟩]
theorem costW (q : Int) : costOf (hsW q) [97] = q ∧ costOf (hsW q) [98] = q := by constructor <;> rfl
theorem pickW_a0 (q : Int) (n : Nat) (hq : 1 ≤ q) : pickN 10 (preW q n 0) (hsW q) = some (preW q n 1) := by
  have h1 := (costW q).1
  simp [preW, twoF, pickN, serveF, h1, show ¬ q = 0 by omega]
theorem pickW_b1 (q : Int) (n : Nat) (hq : 1 ≤ q) (hn : 1 ≤ n) : pickN 10 (preW q n 1) (hsW q) = some (preW q n 2) := by
  have h1 := (costW q).1
  have h2 := (costW q).2
  have h3 : ¬ ((n : Int) * q < q) := by
    have := Int.mul_le_mul_of_nonneg_right (show (1 : Int) ≤ (n : Int) by omega) (show (0 : Int) ≤ q by omega)
    omega
  have h4 : (n : Int) * q - q = ((n - 1 : Nat) : Int) * q := by
    have : (n : Int) = ((n - 1 : Nat) : Int) + 1 := by omega
    rw [this, Int.add_mul]; omega
  simp [preW, twoF, pickN, serveF, advF, h1, h2, show ¬ q = 0 by omega, show (0 : Int) < q by omega, h3, h4]
theorem pickW_b (q : Int) (n t : Nat) (hq : 1 ≤ q) (h2 : 2 ≤ t) (hn : t ≤ n) : pickN 10 (preW q n t) (hsW q) = some (preW q n (t + 1)) := by
  have h1 := (costW q).2
  have h3 : ¬ (((n + 1 - t : Nat) : Int) * q < q) := by
    have := Int.mul_le_mul_of_nonneg_right (show (1 : Int) ≤ ((n + 1 - t : Nat) : Int) by omega) (show (0 : Int) ≤ q by omega)
    omega
  have h4 : ((n + 1 - t : Nat) : Int) * q - q = ((n + 1 - (t + 1) : Nat) : Int) * q := by
    have : ((n + 1 - t : Nat) : Int) = ((n + 1 - (t + 1) : Nat) : Int) + 1 := by omega
    rw [this, Int.add_mul]; omega
  rw [preW, if_neg (by omega), if_neg (by omega), preW, if_neg (by omega), if_neg (by omega)]
  simp only [twoF, pickN, serveF]
  simp [h1, show ¬ q = 0 by omega, h3, h4]
theorem pickW_a (q : Int) (n : Nat) (hq : 1 ≤ q) (hn : 1 ≤ n) : pickN 10 (preW q n (n + 1)) (hsW q) = some (preW q n 1) := by
  have h1 := (costW q).1
  have h2 := (costW q).2
  rw [preW, if_neg (by omega), if_neg (by omega)]
  simp [preW, twoF, pickN, serveF, advF, h1, h2, show ¬ q = 0 by omega, show (0 : Int) < q by omega]
def nxtW (n t : Nat) : Nat := if t = 0 ∨ t = n + 1 then 1 else t + 1
def tOf (n i : Nat) : Nat := if i = 0 then 0 else if i % (n + 1) = 0 then n + 1 else i % (n + 1)
theorem pickW_all (q : Int) (n t : Nat) (hq : 1 ≤ q) (hn : 1 ≤ n) (ht : t ≤ n + 1) : pickN 10 (preW q n t) (hsW q) = some (preW q n (nxtW n t)) := by
  unfold nxtW
  by_cases h0 : t = 0
  · subst h0; rw [if_pos (.inl rfl)]; exact pickW_a0 q n hq
  by_cases h1 : t = n + 1
  · subst h1; rw [if_pos (.inr rfl)]; exact pickW_a q n hq hn
  rw [if_neg (by omega)]
  by_cases h2 : t = 1
  · subst h2; exact pickW_b1 q n hq hn
  · exact pickW_b q n t hq (by omega) (by omega)
theorem tOf_le (n i : Nat) : tOf n i ≤ n + 1 := by
  unfold tOf
  have h1 := Nat.mod_lt i (show 0 < n + 1 by omega)
  generalize i % (n + 1) = r at *
  split
  · omega
  · split <;> omega
theorem tOf_next (n i : Nat) (hn : 1 ≤ n) : nxtW n (tOf n i) = tOf n (i + 1) := by
  have h1 := Nat.mod_lt i (show 0 < n + 1 by omega)
  have h2 : (i + 1) % (n + 1) = if i % (n + 1) + 1 = n + 1 then 0 else i % (n + 1) + 1 := by
    rw [Nat.add_mod, Nat.mod_eq_of_lt (show 1 < n + 1 by omega)]
    by_cases h : i % (n + 1) + 1 = n + 1
    · rw [if_pos h, h, Nat.mod_self]
    · rw [if_neg h, Nat.mod_eq_of_lt (by omega)]
  have h5 : i = 0 → i % (n + 1) = 0 := fun h => by subst h; simp
  unfold nxtW tOf
  rw [if_neg (show ¬ i + 1 = 0 by omega), h2]
  generalize i % (n + 1) = r at *
  by_cases h0 : i = 0
  · have := h5 h0
    subst this
    subst h0
    rw [show (if 0 + 1 = n + 1 then 0 else 0 + 1) = 1 by rw [if_neg (by omega)]]
    simp
  · rw [if_neg h0]
    by_cases h3 : r = 0
    · subst h3
      rw [show (if 0 + 1 = n + 1 then 0 else 0 + 1) = 1 by rw [if_neg (by omega)]]
      simp
    · rw [if_neg h3, if_neg (show ¬ (r = 0 ∨ r = n + 1) by omega)]
      by_cases h4 : r + 1 = n + 1
      · rw [if_pos h4, if_pos rfl]; exact h4
      · rw [if_neg h4, if_neg (by omega)]
theorem tOf_a (n i : Nat) : (tOf n i = 0 ∨ tOf n i = n + 1) ↔ i % (n + 1) = 0 := by
  have h1 := Nat.mod_lt i (show 0 < n + 1 by omega)
  have h5 : i = 0 → i % (n + 1) = 0 := fun h => by subst h; simp
  unfold tOf
  generalize i % (n + 1) = r at *
  by_cases h0 : i = 0
  · rw [if_pos h0]; exact ⟨fun _ => h5 h0, fun _ => .inl rfl⟩
  · rw [if_neg h0]
    by_cases h3 : r = 0
    · rw [if_pos h3]; exact ⟨fun _ => h3, fun _ => .inr rfl⟩
    · rw [if_neg h3]; constructor
      · intro h; omega
      · intro h; exact absurd h h3
/-- whose turn it was -/
def atW (n t : Nat) : Nat × Tn := if t = 0 ∨ t = n + 1 then (0, ⟨[97], 1, 0⟩) else (1, ⟨[98], (n : Int), 0⟩)
theorem preW_at (q : Int) (n t : Nat) (hn : 1 ≤ n) : ∃ x, (preW q n (nxtW n t)).At = ((atW n t).1 : Int) ∧ (preW q n (nxtW n t)).ts[(atW n t).1]? = some ⟨(atW n t).2.N, (atW n t).2.W, x⟩ := by
  unfold nxtW atW
  by_cases h : t = 0 ∨ t = n + 1
  · rw [if_pos h, if_pos h]
    exact ⟨0, rfl, rfl⟩
  · rw [if_neg h, if_neg h, preW, if_neg (by omega), if_neg (by omega)]
    exact ⟨_, rfl, rfl⟩
theorem preW_gd (q : Int) (n : Nat) (h1 : 1 ≤ q) (h2 : q ≤ 1000) (hn : 1 ≤ n) (hn2 : n ≤ 100) : Gd (preW q n 0) := by
  refine ⟨h1, h2, by simp [preW, twoF], ⟨0, rfl, by simp [preW, twoF]⟩, fun j r hr => ?_, by simp [preW, twoF]⟩
  simp only [preW, twoF, if_true] at hr ⊢
  match j, hr with
  | 0, hr => simp at hr; subst hr; simp [okT, namedB, belowF]
  | 1, hr => simp at hr; subst hr; simp [okT, namedB, belowF]; omega
  | j + 2, hr => simp at hr
theorem preW_names (q : Int) (n t : Nat) : (preW q n t).ts.map Tn.N = [[97], [98]] := by
  unfold preW; split
  · rfl
  · split <;> rfl

set_option maxRecDepth 100000 in
set_option maxHeartbeats 8000000 in
theorem walk_weights (quantum : Int) (kv : Nat) (w : World) (hkv : kv < 256) :
    Calls Try.prog 6 #[.int .i64 quantum, .int .u8 (kv : Int)] w fun e w' => e = .returned (.bool true) ∧ Below w.heap.size w w' := by
  go_enter Try.func6, Try.ntmps6
  go_wp2_with fail
  refine (pickK_any quantum 1000 _ (by decide) (by decide)).mono ?_; rintro x w' ⟨⟨qm, hqm, rfl⟩, rfl⟩
  go_upto_region 2 with fail
  obtain ⟨n, hn⟩ : ∃ n : Nat, n = 1 + kv % 20 := ⟨_, rfl⟩
  obtain ⟨q, hq⟩ : ∃ q : Int, q = 1 + (qm : Int) := ⟨_, rfl⟩
  have hn1 : 1 ≤ n := by omega
  have hn2 : n ≤ 20 := by omega
  have hq1 : 1 ≤ q := by omega
  have hq2 : q ≤ 1000 := by omega
  have hn3 : (1 + (kv : Int) % 20) = (n : Int) := by omega
  rw [hn3, ← hq]
  clear hn hn3 hq hqm
  go_wp2_with fail
  refine (fnew_any q _ hq1 hq2).mono ?_; rintro x w1 ⟨rfl, b1⟩
  have o1 : Own w1.heap.size 36 1 (w1.alloc (.cells (frC q none 0 0 0 false).toArray 36)) (some ⟨w1.heap.size, 0, none⟩) 4 4 (frC q none 0 0 0 false) := new_own w1 (frC q none 0 0 0 false) 36 4 rfl (by unfold maxLen; omega)
  have b2 := below_alloc1 w1 (.cells (frC q none 0 0 0 false).toArray 36)
  have o1 := o1.lower (base' := w.heap.size) b1.size
  have bA := b1.trans (b2.mono b1.size)
  have hgw := b1.size
  simp only [frC] at o1 bA
  clear b1 b2
  unfold frV
  go_upto_region 3 with fail
  generalize w1.alloc (.cells #[.int .i64 q, .slice none 0 0, .int .i64 0, .bool false] 36) = w2 at *
  have y0 := World.ownsRow.cellAt o1 0 (by omega)
  have y1 := World.ownsRow.cellAt o1 1 (by omega)
  have y2 := World.ownsRow.cellAt o1 2 (by omega)
  have y3 := World.ownsRow.cellAt o1 3 (by omega)
  simp only [List.getElem?_cons_succ, List.getElem?_cons_zero] at y0 y1 y2 y3
  have hg1 := World.ownsRow.lt o1 w1.heap.size rfl
  go_wp2_with fail
  refine (fset_any ⟨q, [], 0, false⟩ [97] 1 none 0 _ (Sl.nil _ 3) (by simp [rightF]; omega) (by decide) (by decide) (by decide) (by rfl) (by simp)).mono ?_; rintro x w3 ⟨A3, c3, rfl, s3, b3, f3⟩
  simp only [frV, addT, List.nil_append, List.length_cons, List.length_nil, Nat.zero_add] at s3 ⊢
  have o1 := o1.below b3
  have bB := bA.trans (b3.mono (by have := bA.size; omega))
  clear y0 y1 y2 y3 bA b3
  have y0 := World.ownsRow.cellAt o1 0 (by omega)
  have y1 := World.ownsRow.cellAt o1 1 (by omega)
  have y2 := World.ownsRow.cellAt o1 2 (by omega)
  have y3 := World.ownsRow.cellAt o1 3 (by omega)
  simp only [List.getElem?_cons_succ, List.getElem?_cons_zero] at y0 y1 y2 y3
  have x0 := World.ownsRow.frozenAt o1 0
  have x1 := World.ownsRow.frozenAt o1 1
  have x2 := World.ownsRow.frozenAt o1 2
  have x3 := World.ownsRow.frozenAt o1 3
  have st := stored4 o1 (.int .i64 q) (.slice A3 1 c3) (.int .i64 0) (.bool false)
  have s4 := s3.grown st.2 (fun a ha he => by
    have e1 : a.block = w1.heap.size := Option.some.inj he
    have := f3 a ha
    omega)
  have o2 := st.1
  have bC := bB.grown st.2 bB.size (fun j hj => by cases hj; omega)
  clear st s3 bB
  go_upto_region 4 with fail
  generalize ((((w3.setCell ⟨w1.heap.size, 0, none⟩ (.int .i64 q)).setCell ⟨w1.heap.size, 1, none⟩ (.slice A3 1 c3)).setCell ⟨w1.heap.size, 2, none⟩ (.int .i64 0)).setCell ⟨w1.heap.size, 3, none⟩ (.bool false)) = w4 at *
  clear y0 y1 y2 y3 x0 x1 x2 x3 o1
  have y0 := World.ownsRow.cellAt o2 0 (by omega)
  have y1 := World.ownsRow.cellAt o2 1 (by omega)
  have y2 := World.ownsRow.cellAt o2 2 (by omega)
  have y3 := World.ownsRow.cellAt o2 3 (by omega)
  simp only [List.getElem?_cons_succ, List.getElem?_cons_zero] at y0 y1 y2 y3
  have hg4 := World.ownsRow.lt o2 w1.heap.size rfl
  go_wp2_with fail
  refine (fset_any ⟨q, [⟨[97], 1, 0⟩], 0, false⟩ [98] (n : Int) A3 c3 _ s4 (by simp [rightF, List.range_succ, okAt, okT, namedB, belowF]; omega) (by decide) (by omega) (by omega) (by rfl) (by simp)).mono ?_; rintro x w5 ⟨A5, c5, rfl, s5, b5, f5⟩
  simp only [frV, addT, List.cons_append, List.nil_append, List.length_cons, List.length_nil, Nat.zero_add, Nat.reduceAdd] at s5 ⊢
  have o2 := o2.below b5
  have bD := bC.trans (b5.mono (by have := bC.size; omega))
  clear y0 y1 y2 y3 bC b5 s4
  have y0 := World.ownsRow.cellAt o2 0 (by omega)
  have y1 := World.ownsRow.cellAt o2 1 (by omega)
  have y2 := World.ownsRow.cellAt o2 2 (by omega)
  have y3 := World.ownsRow.cellAt o2 3 (by omega)
  simp only [List.getElem?_cons_succ, List.getElem?_cons_zero] at y0 y1 y2 y3
  have x0 := World.ownsRow.frozenAt o2 0
  have x1 := World.ownsRow.frozenAt o2 1
  have x2 := World.ownsRow.frozenAt o2 2
  have x3 := World.ownsRow.frozenAt o2 3
  have st := stored4 o2 (.int .i64 q) (.slice A5 2 c5) (.int .i64 0) (.bool false)
  have s6 := s5.grown st.2 (fun a ha he => by
    have e1 : a.block = w1.heap.size := Option.some.inj he
    have := f5 a ha
    omega)
  have o3 := st.1
  have bE := bD.grown st.2 bD.size (fun j hj => by cases hj; omega)
  clear st s5 bD
  go_upto_region 5 with fail
  generalize ((((w5.setCell ⟨w1.heap.size, 0, none⟩ (.int .i64 q)).setCell ⟨w1.heap.size, 1, none⟩ (.slice A5 2 c5)).setCell ⟨w1.heap.size, 2, none⟩ (.int .i64 0)).setCell ⟨w1.heap.size, 3, none⟩ (.bool false)) = w6 at *
  clear y0 y1 y2 y3 x0 x1 x2 x3 o2
  have hgd0 := Lib.hid (preW_gd q n hq1 hq2 hn1 (by omega))
  obtain ⟨hs, hhs⟩ : ∃ hs : List Hd, hs = hsW q := ⟨_, rfl⟩
  have HsP := Lib.hid (show flatH hs = [.string (bstr [98]), .int .i64 q, .string (bstr [97]), .int .i64 q] by rw [hhs]; rfl)
  have HhC := Lib.hid (show ∀ x, x ∈ hs → 1 ≤ x.C ∧ x.C ≤ 1000 by intro x hx; rw [hhs] at hx; simp [hsW] at hx; rcases hx with rfl | rfl <;> exact ⟨hq1, hq2⟩)
  have Hmay := Lib.hid (show ∀ ts : List Tn, ts.map Tn.N = [[97], [98]] → MayOK ts hs by
    intro ts hts
    refine ⟨by rw [hhs]; show ([[98], [97]] : List (List UInt8)).Nodup; decide, fun h hh => ?_⟩
    have h0 := HhC.out h hh
    rw [hhs] at hh
    simp [hsW] at hh
    rcases hh with rfl | rfl
    · exact ⟨by simp, placeI_mem (by rw [hts]; simp), h0.1, h0.2⟩
    · exact ⟨by simp, placeI_mem (by rw [hts]; simp), h0.1, h0.2⟩)
  have hne : hs ≠ [] := by rw [hhs]; simp [hsW]
  have Hpk := Lib.hid (show ∀ t, t ≤ n + 1 → pickN 10 (preW q n t) hs = some (preW q n (nxtW n t)) by intro t ht; rw [hhs]; exact pickW_all q n t hq1 hn1 ht)
  clear hhs
  go_wp2_with fail
  go_loopw [47] (fun s47 wx => ∃ (i : Nat) (f : Fr) (A : Option Addr) (cc : Nat), i ≤ 5 * (1 + n) ∧ s47 = .int .i64 (i : Int) ∧ Own w.heap.size 36 1 wx (some ⟨w1.heap.size, 0, none⟩) 4 4 (frC f.Q A f.ts.length cc f.At f.H) ∧ Sl wx 3 A f.ts.length cc (flatT f.ts) ∧ Hid (Gd f) ∧ Hid (f = preW q n (tOf n i)) ∧ Below w.heap.size w wx) (fun iv _ => 5 * (1 + n) - (intOf iv).toNat)
  case atStart => exact ⟨0, preW q n 0, A5, c5, by omega, rfl, o3, s6, hgd0, Lib.hid rfl, bE⟩
  case round =>
    obtain ⟨i, f, A, cc, hin, rfl, oF, sF, HG, HN, bF⟩ := hrel
    by_cases g1 : (i : Int) < 5 * (1 + (n : Int))
    · obtain ⟨fr, hfr⟩ : ∃ fr, fr = preW q n (nxtW n (tOf n i)) := ⟨_, rfl⟩
      have hpk : pickN 10 f hs = some fr := by rw [HN.out, hfr]; exact Hpk.out _ (tOf_le n i)
      have p1 := (pickN_spec HhC.out 10 f fr HG.out hpk).1
      obtain ⟨x, r4, r5⟩ := preW_at q n (tOf n i) hn1
      rw [← hfr] at r4 r5
      obtain ⟨k, q1, hkq, p4, p5, hN⟩ : ∃ (k : Nat) (q1 : Tn), True ∧ fr.At = (k : Int) ∧ fr.ts[k]? = some q1 ∧ q1.N = (atW n (tOf n i)).2.N := ⟨_, _, trivial, r4, r5, rfl⟩
      have Hp1 := Lib.hid p1
      have Hp2 := Lib.hid (show fr = preW q n (tOf n (i + 1)) by rw [hfr, tOf_next n i hn1])
      have Hp4 := Lib.hid p4
      have Hp5 := Lib.hid p5
      have HqN := Lib.hid hN
      have Hpk1 := Lib.hid hpk
      have Hnm := Lib.hid (show f.ts.map Tn.N = [[97], [98]] by rw [HN.out]; exact preW_names q n _)
      clear p1 p4 p5 r4 r5 hN hpk hfr hkq
      have bH := below_alloc1 wr (.cells #[.string (bstr [98]), .int .i64 q, .string (bstr [97]), .int .i64 q] 45)
      have sH : Sl (wr.alloc (.cells #[.string (bstr [98]), .int .i64 q, .string (bstr [97]), .int .i64 q] 45)) 2 (some ⟨wr.heap.size, 0, none⟩) 2 2 (flatH hs) := by
        rw [HsP.out]
        exact ⟨(sl_cells wr [.string (bstr [98]), .int .i64 q, .string (bstr [97]), .int .i64 q] 45).cells, rfl, Nat.le_refl _, fun h => by cases h⟩
      have sF7 := sF.below bH
      have oF7 := oF.below bH
      have Hgw := Lib.hid (show w1.heap.size < (wr.alloc (.cells #[.string (bstr [98]), .int .i64 q, .string (bstr [97]), .int .i64 q] 45)).heap.size from (World.ownsRow.lt oF7 w1.heap.size rfl).2)
      have bG := bF.trans (bH.mono bF.size)
      have y0 := World.ownsRow.cellAt oF 0 (by omega)
      have y1 := World.ownsRow.cellAt oF 1 (by omega)
      have y2 := World.ownsRow.cellAt oF 2 (by omega)
      have y3 := World.ownsRow.cellAt oF 3 (by omega)
      simp only [frC, List.getElem?_cons_succ, List.getElem?_cons_zero] at y0 y1 y2 y3
      clear sF bH bF
      go_wp2_with fail
      refine (pick_any f fr hs 10 k q1 A (some ⟨wr.heap.size, 0, none⟩) cc 2 2 _ sF7 sH (by omega) HG.out (Hmay.out f.ts Hnm.out) hne Hpk1.out Hp4.out Hp5.out).mono ?_; rintro x w7 ⟨A7, c7, rfl, s7, b7, f7⟩
      have hsz7 := bG.size
      have oF8 := oF7.below b7
      have bH := bG.trans (b7.mono bG.size)
      clear y0 y1 y2 y3 sF7 sH oF7 oF b7 bG
      have o8 : Own w7.heap.size 36 1 (w7.alloc (.cells (frC fr.Q A7 fr.ts.length c7 fr.At fr.H).toArray 36)) (some ⟨w7.heap.size, 0, none⟩) 4 4 (frC fr.Q A7 fr.ts.length c7 fr.At fr.H) := new_own w7 (frC fr.Q A7 fr.ts.length c7 fr.At fr.H) 36 4 rfl (by unfold maxLen; omega)
      have b8 := below_alloc1 w7 (.cells (frC fr.Q A7 fr.ts.length c7 fr.At fr.H).toArray 36)
      have oF9 := oF8.below b8
      have s9 := s7.below b8
      have bI := bH.trans (b8.mono bH.size)
      simp only [frC] at o8 b8 oF9 s9 bI
      clear b8 oF8 s7 bH
      unfold frV
      go_upto_region 11 with fail
      generalize w7.alloc (.cells #[.int .i64 fr.Q, .slice A7 fr.ts.length c7, .int .i64 fr.At, .bool fr.H] 36) = w8 at *
      have z0 := World.ownsRow.cellAt o8 0 (by omega)
      have z1 := World.ownsRow.cellAt o8 1 (by omega)
      have z2 := World.ownsRow.cellAt o8 2 (by omega)
      have z3 := World.ownsRow.cellAt o8 3 (by omega)
      simp only [List.getElem?_cons_succ, List.getElem?_cons_zero] at z0 z1 z2 z3
      have y0 := World.ownsRow.cellAt oF9 0 (by omega)
      have y1 := World.ownsRow.cellAt oF9 1 (by omega)
      have y2 := World.ownsRow.cellAt oF9 2 (by omega)
      have y3 := World.ownsRow.cellAt oF9 3 (by omega)
      simp only [List.getElem?_cons_succ, List.getElem?_cons_zero] at y0 y1 y2 y3
      have x0 := World.ownsRow.frozenAt oF9 0
      have x1 := World.ownsRow.frozenAt oF9 1
      have x2 := World.ownsRow.frozenAt oF9 2
      have x3 := World.ownsRow.frozenAt oF9 3
      have st := stored4 oF9 (.int .i64 fr.Q) (.slice A7 fr.ts.length c7) (.int .i64 fr.At) (.bool fr.H)
      have s10 := s9.grown st.2 (fun a ha he => by
        have e1 : a.block = w1.heap.size := Option.some.inj he
        have := f7 a ha
        have := Hgw.out
        omega)
      have bJ := bI.grown st.2 bI.size (fun j hj => by cases hj; omega)
      have oK := st.1
      have h1n : ¬ (1 + (n : Int) = 0) := by omega
      have hcast : (i : Int) % (1 + (n : Int)) = ((i % (n + 1) : Nat) : Int) := by rw [Int.natCast_emod]; congr 1; omega
      have hN := HqN.out
      clear st s9 bI o8 oF9
      by_cases hm : i % (n + 1) = 0
      · have hmz : (i : Int) % (1 + (n : Int)) = 0 := by rw [hcast, hm]; rfl
        rw [atW, if_pos ((tOf_a n i).2 hm)] at hN
        clear hcast hm
        obtain ⟨N1, W1, L1⟩ := q1
        simp only at hN
        subst hN
        rw [show bstr [97] = ({ data := #[97] } : ByteArray) from rfl]
        go_wp2_with fail
        go_roundw
        case rel => exact ⟨i + 1, fr, A7, c7, by omega, by go_num, oK, s10, Hp1, Hp2, bJ⟩
        case measure => simp [intOf]; omega
      · have hmz : ¬ ((i : Int) % (1 + (n : Int)) = 0) := by rw [hcast]; omega
        rw [atW, if_neg (fun h => hm ((tOf_a n i).1 h))] at hN
        clear hcast hm
        obtain ⟨N1, W1, L1⟩ := q1
        simp only at hN
        subst hN
        rw [show bstr [98] = ({ data := #[98] } : ByteArray) from rfl]
        go_wp2_with fail
        go_roundw
        case rel => exact ⟨i + 1, fr, A7, c7, by omega, by go_num, oK, s10, Hp1, Hp2, bJ⟩
        case measure => simp [intOf]; omega
    · obtain rfl : i = 5 * (1 + n) := by omega
      go_wp2_with (go_at_call 23; refine (awake17_any _).mono ?_; rintro x w6 ⟨rfl, hn6⟩)
      go_ret
      exact ⟨rfl, bF.trans (hn6.mono bF.size)⟩
theorem walk_weights' (quantum a1 : Int) (w : World) (h : (Lit.int .u8 a1).wf = true) :
    Calls Try.prog 6 #[.int .i64 quantum, .int .u8 a1] w fun e w' => e = .returned (.bool true) ∧ Below w.heap.size w w' := by
  simp [Lit.wf, IntKind.min, IntKind.max, IntKind.signed, IntKind.bits] at h
  obtain ⟨kv, rfl⟩ := Int.eq_ofNat_of_zero_le (show 0 ≤ a1 by omega)
  exact walk_weights quantum kv w (by omega)
end Go.Proofs.Ytphjmbhlokkdiaa
