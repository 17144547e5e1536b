import Derived.Test.YtphjmbhlokkdiaaFairK
import Derived.Test.YtphjmbhlokkdiaaPickK
import Derived.Test.YtphjmbhlokkdiaaRegionP
import Derived.Test.YtphjmbhlokkdiaaRegionS
namespace Go.Proofs.Ytphjmbhlokkdiaa
open Go.RowKit Go.Maps Go.WideShapes Go.WideMaps
set_option linter.unusedSimpArgs false
set_option linter.unusedVariables false

def isIdx (m : Nat) : Value → World → Prop := fun v _ => ∃ k : Nat, k < m ∧ v = .int .i64 (k : Int)
theorem isIdx_elim {m : Nat} {v : Value} {w : World} (h : isIdx m v w) : ∃ k : Nat, k < m ∧ v = .int .i64 (k : Int) := h
theorem isIdx_stable (m : Nat) : Stable (isIdx m) := fun _ _ _ _ h => h
theorem pickK_such (x : Int) (n : Nat) (w : World) (hn : 0 < n) (hn2 : n ≤ 4611686018427387904) :
    Calls Try.prog 19 #[.int .i64 x, .int .i64 (n : Int)] w fun e w' => ∃ v, e = .returned v ∧ Below w.heap.size w w' ∧ isIdx n v w' :=
  (pickK_any x n w hn hn2).mono fun e w' ⟨⟨k, h1, h2⟩, h3⟩ => ⟨_, h2, h3 ▸ Below.refl _ _, k, h1, rfl⟩
def isAd (ad : Addr) (m : Nat) : Value → World → Prop := fun v _ => ∃ k : Nat, k < m ∧ v = .pointer (some (ad.add (k * 3)))
theorem isAd_elim {ad : Addr} {m : Nat} {v : Value} {w : World} (h : isAd ad m v w) : ∃ k : Nat, k < m ∧ v = .pointer (some (ad.add (k * 3))) := h
theorem isAd_stable (ad : Addr) (m : Nat) : Stable (isAd ad m) := fun _ _ _ _ h => h
def isQ (ts : List Tn) : Value → World → Prop := fun v _ => ∃ q : Tn, q ∈ ts ∧ v = .agg #[.string (bstr q.N), .int .i64 q.W, .int .i64 q.L]
theorem isQ_elim {ts : List Tn} {v : Value} {w : World} (h : isQ ts v w) : ∃ q : Tn, q ∈ ts ∧ v = .agg #[.string (bstr q.N), .int .i64 q.W, .int .i64 q.L] := h
theorem isQ_stable (ts : List Tn) : Stable (isQ ts) := fun _ _ _ _ h => h
def JnewT (B : Nat) (v : Value) (w : World) : Prop := ∃ g, v = .pointer (some ⟨g, 0, none⟩) ∧ B ≤ g ∧ Own B 51 1 w (some ⟨g, 0, none⟩) 3 3 (Tn.cells ⟨[], 0, 0⟩)
theorem JnewT_stable (B : Nat) : Stable (JnewT B) := fun _ _ _ hb ⟨g, e, h1, h2⟩ => ⟨g, e, h1, h2.below hb⟩
def JQ (B : Nat) (ts : List Tn) (v : Value) (w : World) : Prop := ∃ (g : Nat) (q : Tn), v = .pointer (some ⟨g, 0, none⟩) ∧ B ≤ g ∧ q ∈ ts ∧ Own B 51 1 w (some ⟨g, 0, none⟩) 3 3 q.cells
theorem JQ_stable (B : Nat) (ts : List Tn) : Stable (JQ B ts) := fun _ _ _ hb ⟨g, q, e, h1, h3, h2⟩ => ⟨g, q, e, h1, h3, h2.below hb⟩
theorem stored3 {base r : Nat} {t : TypeId} {w : World} {cs : List Value} (h : Own base t 1 w (some ⟨r, 0, none⟩) 3 3 cs) (v0 v1 v2 : Value) :
    Own base t 1 (((w.setCell ⟨r, 0, none⟩ v0).setCell ⟨r, 1, none⟩ v1).setCell ⟨r, 2, none⟩ v2) (some ⟨r, 0, none⟩) 3 3 [v0, v1, v2] ∧
    w.grownBy (((w.setCell ⟨r, 0, none⟩ v0).setCell ⟨r, 1, none⟩ v1).setCell ⟨r, 2, none⟩ v2) (some r) := by
  have h0 := World.ownsRow.stored h 0 v0
  have h1 := h0.1.stored 1 v1
  have h2 := h1.1.stored 2 v2
  refine ⟨?_, grownBy_trans h0.2 (grownBy_trans h1.2 h2.2)⟩
  have hl : cs.length = 3 := by simpa using h.1
  obtain ⟨c0, c1, c2, rfl⟩ : ∃ c0 c1 c2, cs = [c0, c1, c2] := by
    match cs, hl with
    | [c0, c1, c2], _ => exact ⟨_, _, _, rfl⟩
  exact h2.1
def isCost : Value → World → Prop := fun v _ => ∃ k : Int, 1 ≤ k ∧ k ≤ 1000 ∧ v = .int .i64 k
theorem isCost_elim {v : Value} {w : World} (h : isCost v w) : ∃ k : Int, 1 ≤ k ∧ k ≤ 1000 ∧ v = .int .i64 k := h
theorem isCost_stable : Stable isCost := fun _ _ _ _ h => h
def isHd (s : List UInt8) : Value → World → Prop := fun v _ => ∃ k : Int, 1 ≤ k ∧ k ≤ 1000 ∧ v = .agg #[.string (bstr s), .int .i64 k]
theorem isHd_elim {s : List UInt8} {v : Value} {w : World} (h : isHd s v w) : ∃ k : Int, 1 ≤ k ∧ k ≤ 1000 ∧ v = .agg #[.string (bstr s), .int .i64 k] := h
theorem isHd_stable (s : List UInt8) : Stable (isHd s) := fun _ _ _ _ h => h
def isHs (B : Nat) (s : List UInt8) : Value → World → Prop := fun v w => ∃ (A : Option Addr) (k : Int), 1 ≤ k ∧ k ≤ 1000 ∧ v = .slice A 1 1 ∧ Sl w 2 A 1 1 (flatH [⟨s, k⟩]) ∧ ∀ a, A = some a → B < a.block
theorem isHs_elim {B : Nat} {s : List UInt8} {v : Value} {w : World} (h : isHs B s v w) : ∃ (A : Option Addr) (k : Int), 1 ≤ k ∧ k ≤ 1000 ∧ v = .slice A 1 1 ∧ Sl w 2 A 1 1 (flatH [⟨s, k⟩]) ∧ ∀ a, A = some a → B < a.block := h
theorem isHs_stable (B : Nat) (s : List UInt8) : Stable (isHs B s) := fun _ _ _ hb ⟨A, k, h1, h2, h3, h4, h5⟩ => ⟨A, k, h1, h2, h3, h4.below hb, h5⟩
theorem fright_t (f : Fr) (A : Option Addr) (d : Nat) (w : World) (hs : Sl w 3 A f.ts.length d (flatT f.ts)) (hg : Gd f) :
    Calls Try.prog 25 #[.agg #[.int .i64 f.Q, .slice A f.ts.length d, .int .i64 f.At, .bool f.H]] w fun e w' => e = .returned (.bool true) ∧ Below w.heap.size w w' :=
  (fright_any f A f.ts.length d w hs (by have := hg.len; omega) (by have := hg.q1; have := hg.q2; omega)).mono fun e w' ⟨h1, h2⟩ => ⟨by rw [h1, hg.right], h2⟩

theorem fright_k (f : Fr) (A : Option Addr) (d : Nat) (k : Int) (w : World) (hs : Sl w 3 A f.ts.length d (flatT f.ts)) (hg : Gd f) (hk : f.At = k) :
    Calls Try.prog 25 #[.agg #[.int .i64 f.Q, .slice A f.ts.length d, .int .i64 k, .bool f.H]] w fun e w' => e = .returned (.bool true) ∧ Below w.heap.size w w' := by
  rw [← hk]; exact fright_t f A d w hs hg
set_option maxRecDepth 100000 in
set_option maxHeartbeats 8000000 in
theorem walk_alone (f : Fr) (A : Option Addr) (m d : Nat) (which c : Int) (w : World) (hs : Sl w 3 A m d (flatT f.ts)) (hm : m ≤ 9223372036854775807) (hQ : -9223372036854775808 ≤ f.Q ∧ f.Q ≤ 9223372036854775807) :
    Calls Try.prog 5 #[frV f.Q A m d f.At f.H, .int .i64 which, .int .i64 c] w fun e w' => e = .returned (.bool true) ∧ Below w.heap.size w w' := by
  have Hl := Lib.hid (slT_len hs)
  have b1 := below_alloc1 w (.cells (frC f.Q A m d f.At f.H).toArray 36)
  have o1 : Own w.heap.size 36 1 (w.alloc (.cells (frC f.Q A m d f.At f.H).toArray 36)) (some ⟨w.heap.size, 0, none⟩) 4 4 (frC f.Q A m d f.At f.H) := new_own w (frC f.Q A m d f.At f.H) 36 4 rfl (by unfold maxLen; omega)
  simp only [frC] at b1 o1
  unfold frV
  go_enter Try.func5, Try.ntmps5
  go_upto_region 1 with fail
  generalize w.alloc (.cells #[.int .i64 f.Q, .slice A m d, .int .i64 f.At, .bool f.H] 36) = w1 at *
  have y0 := World.ownsRow.cellAt o1 0 (by omega)
  have y1 := World.ownsRow.cellAt o1 1 (by omega)
  have y2 := World.ownsRow.cellAt o1 2 (by omega)
  have y3 := World.ownsRow.cellAt o1 3 (by omega)
  simp only [List.getElem?_cons_succ, List.getElem?_cons_zero] at y0 y1 y2 y3
  go_wp2_with fail
  refine (great_any f A m d _ (hs.below b1) hm).mono ?_; rintro x w2 ⟨z, rfl, hz, b2⟩
  have o2 := o1.below b2
  have bA := b1.trans (b2.mono b1.size)
  clear y0 y1 y2 y3 b1 b2 o1
  cases z with
  | true =>
    go_wp2_with (go_at_call 23; refine (awake17_any _).mono ?_; rintro x w6 ⟨rfl, hn6⟩)
    go_ret
    exact ⟨rfl, bA.trans (hn6.mono bA.size)⟩
  | false =>
    have hm30 := hz rfl
    clear hz
    have y0 := World.ownsRow.cellAt o2 0 (by omega)
    have y1 := World.ownsRow.cellAt o2 1 (by omega)
    have y2 := World.ownsRow.cellAt o2 2 (by omega)
    have y3 := World.ownsRow.cellAt o2 3 (by omega)
    simp only [List.getElem?_cons_succ, List.getElem?_cons_zero] at y0 y1 y2 y3
    go_wp2_with fail
    refine (fright_any f A m d _ (hs.below bA) (by omega) hQ).mono ?_; rintro x w3 ⟨rfl, b3⟩
    have o3 := o2.below b3
    have bB := bA.trans (b3.mono bA.size)
    clear y0 y1 y2 y3 bA b3 o2
    cases hr : rightF f with
    | false =>
      go_wp2_with (go_at_call 23; refine (awake17_any _).mono ?_; rintro x w6 ⟨rfl, hn6⟩)
      go_ret
      exact ⟨rfl, bB.trans (hn6.mono bB.size)⟩
    | true =>
      have y0 := World.ownsRow.cellAt o3 0 (by omega)
      have y1 := World.ownsRow.cellAt o3 1 (by omega)
      have y2 := World.ownsRow.cellAt o3 2 (by omega)
      have y3 := World.ownsRow.cellAt o3 3 (by omega)
      simp only [List.getElem?_cons_succ, List.getElem?_cons_zero] at y0 y1 y2 y3
      by_cases h0 : m = 0
      · subst h0
        go_wp2_with (go_at_call 23; refine (awake17_any _).mono ?_; rintro x w6 ⟨rfl, hn6⟩)
        go_ret
        exact ⟨rfl, bB.trans (hn6.mono bB.size)⟩
      · have hg : Gd f := right_gd hr (by rw [Hl.out]; omega)
        have h0i : ¬ (m : Int) = 0 := by omega
        obtain ⟨ts, hts⟩ : ∃ ts, ts = f.ts := ⟨_, rfl⟩
        rw [← hts] at Hl
        have hs3 := hs.below bB
        rw [← hts] at hs3
        have Hts := Lib.hid hts
        obtain ⟨ad, rfl⟩ : ∃ ad, A = some ad := by
          obtain ⟨q, hq⟩ := get_some ts 0 (by rw [Hl.out]; omega)
          exact slT_addr hs3 hq
        clear hts hr
        go_wp2_with fail
        --@region 5 3 al3.spec
        refine wp_region_runS [9, 10] (fun k => if k = 10 then 9 else k) (fun _ _ => True) (by kernel_rfl) (by kernel_rfl) (by kernel_rfl) (R := RB w3.heap.size) (fun _ _ h => RB.below h) (fun _ _ _ => RB.trans) (fun _ _ _ _ _ => trivial) trivial ?_
        apply RunS.pure (by decide)
        · intro vs w hb hd; clear hd; simp only [List.take, putL, Act.put, List.setIfInBounds_toArray, List.set_cons_zero, List.set_cons_succ]; unfold StepOK; go_simp; exact ⟨Below.refl _ _, isV_mk _ _⟩
        apply RunS.pure (by decide)
        · intro vs w hb hd; have d0 : isV _ (vs 0) w := hd 0 (by decide) (by kernel_rfl); unfold isV at d0; clear hd; have hc := RB.cell hb y1; simp only [List.take, putL, Act.put, List.setIfInBounds_toArray, List.set_cons_zero, List.set_cons_succ]; unfold StepOK; go_simp; exact ⟨Below.refl _ _, isV_mk _ _⟩
        apply RunS.pure (by decide)
        · intro vs w hb hd; clear hd; simp only [List.take, putL, Act.put, List.setIfInBounds_toArray, List.set_cons_zero, List.set_cons_succ]; unfold StepOK; go_simp; exact ⟨Below.refl _ _, isV_mk _ _⟩
        apply RunS.pure (by decide)
        · intro vs w hb hd; clear hd; simp only [List.take, putL, Act.put, List.setIfInBounds_toArray, List.set_cons_zero, List.set_cons_succ]; unfold StepOK; go_simp; exact ⟨Below.refl _ _, isV_mk _ _⟩
        apply RunS.pure (by decide)
        · intro vs w hb hd; have d3 : isV _ (vs 3) w := hd 3 (by decide) (by kernel_rfl); unfold isV at d3; clear hd; have hc := RB.cell hb y1; simp only [List.take, putL, Act.put, List.setIfInBounds_toArray, List.set_cons_zero, List.set_cons_succ]; unfold StepOK; go_simp; exact ⟨Below.refl _ _, isV_mk _ _⟩
        apply RunS.pure (by decide)
        · intro vs w hb hd; have d4 : isV _ (vs 4) w := hd 4 (by decide) (by kernel_rfl); unfold isV at d4; clear hd; simp only [List.take, putL, Act.put, List.setIfInBounds_toArray, List.set_cons_zero, List.set_cons_succ]; unfold StepOK; go_simp; exact ⟨Below.refl _ _, isV_mk _ _⟩
        refine RunS.such (by decide) (isIdx m) (fun _ _ _ _ h => h) ?_ ?_
        · intro vs w hb hd; have d2 : isV _ (vs 2) w := hd 2 (by decide) (by kernel_rfl); unfold isV at d2; have d5 : isV _ (vs 5) w := hd 5 (by decide) (by kernel_rfl); unfold isV at d5; clear hd; simp only [List.take, putL, Act.put, List.setIfInBounds_toArray, List.set_cons_zero, List.set_cons_succ]; unfold StepOK; go_simp; exact ⟨Below.refl _ _, pickK_such _ _ _ (by omega) (by omega)⟩
        refine RunS.such (by decide) (isAd ad m) (fun _ _ _ _ h => h) ?_ ?_
        · intro vs w hb hd; have d1 : isV _ (vs 1) w := hd 1 (by decide) (by kernel_rfl); unfold isV at d1; have d6 := hd 6 (by decide) (by kernel_rfl); simp only [TR, Nat.reduceAdd, Nat.reduceSub, List.getD_cons_zero, List.getD_cons_succ] at d6; clear hd; obtain ⟨k, hkm, e6⟩ := isIdx_elim d6; have hin : (0 : Int) ≤ (k : Int) ∧ (k : Int) < (m : Int) := by { omega }; simp only [List.take, putL, Act.put, List.setIfInBounds_toArray, List.set_cons_zero, List.set_cons_succ]; unfold StepOK; go_simp; exact ⟨Below.refl _ _, k, hkm, rfl⟩
        refine RunS.such (by decide) (isQ ts) (fun _ _ _ _ h => h) ?_ ?_
        · intro vs w hb hd; have d7 := hd 7 (by decide) (by kernel_rfl); simp only [TR, Nat.reduceAdd, Nat.reduceSub, List.getD_cons_zero, List.getD_cons_succ] at d7; clear hd; obtain ⟨k, hkm, e7⟩ := isAd_elim d7; obtain ⟨q, hq⟩ := get_some ts k (by rw [Hl.out]; exact hkm); obtain ⟨z0, z1, z2⟩ := slT_three (hs3.below (hb (Nat.le_refl _))) hq; simp only [List.take, putL, Act.put, List.setIfInBounds_toArray, List.set_cons_zero, List.set_cons_succ]; unfold StepOK; go_simp; exact ⟨Below.refl _ _, q, List.mem_of_getElem? hq, rfl⟩
        refine RunS.eff (by decide) (JnewT w3.heap.size) (JnewT_stable _) (by rfl) (by rfl) ?_ ?_
        · intro vs w hb hd hj; clear hd; have hj2 := hj; (try simp only [prevE, lastV, lastS, List.mem_cons, List.not_mem_nil, or_false, Nat.reduceEqDiff, Nat.reduceAdd, if_true, if_false, reduceIte, or_true, true_or, or_self] at hj2); clear hj; have hB := (hb (Nat.le_refl _)).size; clear hj2; simp only [List.take, putL, Act.put, List.setIfInBounds_toArray, List.set_cons_zero, List.set_cons_succ]; unfold StepE; go_simp; exact ⟨RB.below (below_alloc1 _ _), _, rfl, hB, Own.lower (new_own _ (Tn.cells ⟨[], 0, 0⟩) 51 3 rfl (by unfold maxLen; omega)) hB⟩
        refine RunS.storeAt (by decide) 9 (JQ w3.heap.size ts) (JQ_stable _ _) (by rfl) (by decide) (by kernel_rfl) ?_ ?_
        · intro vs w hb hd hj; have d0 : isV _ (vs 0) w := hd 0 (by decide) (by kernel_rfl); unfold isV at d0; have d1 : isV _ (vs 1) w := hd 1 (by decide) (by kernel_rfl); unfold isV at d1; have d2 : isV _ (vs 2) w := hd 2 (by decide) (by kernel_rfl); unfold isV at d2; have d3 : isV _ (vs 3) w := hd 3 (by decide) (by kernel_rfl); unfold isV at d3; have d4 : isV _ (vs 4) w := hd 4 (by decide) (by kernel_rfl); unfold isV at d4; have d5 : isV _ (vs 5) w := hd 5 (by decide) (by kernel_rfl); unfold isV at d5; have d6 := hd 6 (by decide) (by kernel_rfl); simp only [TR, Nat.reduceAdd, Nat.reduceSub, List.getD_cons_zero, List.getD_cons_succ] at d6; have d7 := hd 7 (by decide) (by kernel_rfl); simp only [TR, Nat.reduceAdd, Nat.reduceSub, List.getD_cons_zero, List.getD_cons_succ] at d7; have d8 := hd 8 (by decide) (by kernel_rfl); simp only [TR, Nat.reduceAdd, Nat.reduceSub, List.getD_cons_zero, List.getD_cons_succ] at d8; clear hd; have hj2 := hj; (try simp only [prevE, lastV, lastS, List.mem_cons, List.not_mem_nil, or_false, Nat.reduceEqDiff, Nat.reduceAdd, if_true, if_false, reduceIte, or_true, true_or, or_self] at hj2); clear hj; obtain ⟨q, hqm, e8⟩ := isQ_elim d8; obtain ⟨g, eg, hBg, ho⟩ := hj2; have y0 := World.ownsRow.cellAt ho 0 (by omega); have x0 := World.ownsRow.frozenAt ho 0; have y1 := World.ownsRow.cellAt ho 1 (by omega); have x1 := World.ownsRow.frozenAt ho 1; have y2 := World.ownsRow.cellAt ho 2 (by omega); have x2 := World.ownsRow.frozenAt ho 2; simp only [Tn.cells, List.getElem?_cons_succ, List.getElem?_cons_zero] at y0 y1 y2; have st := stored3 ho (.string (bstr q.N)) (.int .i64 q.W) (.int .i64 q.L); clear ho; simp only [List.take, putL, Act.put, List.setIfInBounds_toArray, List.set_cons_zero, List.set_cons_succ]; unfold StepE; go_simp; first | exact ⟨RB.grown st.2 hBg, g, q, eg, hBg, hqm, st.1⟩ | exact ⟨RB.grown st.2 hBg, g, q, rfl, hBg, hqm, st.1⟩
        intro vs w1 hb hd hj
        try simp only [prevE, lastV, lastS, List.mem_cons, List.not_mem_nil, or_false, Nat.reduceEqDiff, Nat.reduceAdd, if_true, if_false, reduceIte, or_true, true_or, or_self] at hj
        have e0 : isV _ (vs 0) w1 := hd 0 (by decide)
        have e1 : isV _ (vs 1) w1 := hd 1 (by decide)
        have e2 : isV _ (vs 2) w1 := hd 2 (by decide)
        have e3 : isV _ (vs 3) w1 := hd 3 (by decide)
        have e4 : isV _ (vs 4) w1 := hd 4 (by decide)
        have e5 : isV _ (vs 5) w1 := hd 5 (by decide)
        have e6 := hd 6 (by decide); simp only [TR, Nat.reduceAdd, Nat.reduceSub, List.getD_cons_zero, List.getD_cons_succ] at e6
        have e7 := hd 7 (by decide); simp only [TR, Nat.reduceAdd, Nat.reduceSub, List.getD_cons_zero, List.getD_cons_succ] at e7
        have e8 := hd 8 (by decide); simp only [TR, Nat.reduceAdd, Nat.reduceSub, List.getD_cons_zero, List.getD_cons_succ] at e8
        clear hd
        unfold isV at e0 e1 e2 e3 e4 e5
        simp only [putL, Act.put, List.setIfInBounds_toArray, List.set_cons_zero, List.set_cons_succ, e0, e1, e2, e3, e4, e5]
        clear e0 e1 e2 e3 e4 e5
        --@end
        obtain ⟨g, q, eg, hBg, hqm, oq⟩ := hj
        simp only [Nat.reduceAdd, eg]
        have hbw := hb (Nat.le_refl _)
        have o4 := o3.below hbw
        have bC := bB.trans (hbw.mono bB.size)
        have n3 := bB.size
        have oq := oq.lower (base' := w.heap.size) n3
        have hg0 := World.ownsRow.lt o3 w.heap.size rfl
        have hg4 := (World.ownsRow.lt o4 w.heap.size rfl).2
        rename_i w4
        clear e6 e7 e8 hb hbw bB hs3 o3 y0 y1 y2 y3
        try clear eg
        go_upto_region 4 with fail
        --@region 5 4 al4.spec
        refine wp_region_run (by kernel_rfl) (by kernel_rfl) ?_
        apply RunL.pure
        · intro vs w hb hd; clear hd; simp only [List.take, putL, Act.put, List.setIfInBounds_toArray, List.set_cons_zero, List.set_cons_succ]; unfold StepOK; go_simp; exact ⟨Below.refl _ _, isV_mk _ _⟩
        apply RunL.pure
        · intro vs w hb hd; have d0 : isV _ (vs 0) w := hd 0 (by decide) (by kernel_rfl); unfold isV at d0; clear hd; have hc := World.ownsRow.cellAt (oq.below hb) 0 (by omega); simp only [Tn.cells, List.getElem?_cons_succ, List.getElem?_cons_zero] at hc; simp only [List.take, putL, Act.put, List.setIfInBounds_toArray, List.set_cons_zero, List.set_cons_succ]; unfold StepOK; go_simp; exact ⟨Below.refl _ _, isV_mk _ _⟩
        apply RunL.pure
        · intro vs w hb hd; clear hd; simp only [List.take, putL, Act.put, List.setIfInBounds_toArray, List.set_cons_zero, List.set_cons_succ]; unfold StepOK; go_simp; exact ⟨Below.refl _ _, isV_mk _ _⟩
        refine RunL.such (isIdx 1000) (isIdx_stable _) ?_ ?_
        · intro vs w hb hd; have d2 : isV _ (vs 2) w := hd 2 (by decide) (by kernel_rfl); unfold isV at d2; clear hd; simp only [List.take, putL, Act.put, List.setIfInBounds_toArray, List.set_cons_zero, List.set_cons_succ]; unfold StepOK; go_simp; exact ⟨Below.refl _ _, pickK_such _ 1000 _ (by omega) (by omega)⟩
        refine RunL.such (isCost) (isCost_stable) ?_ ?_
        · intro vs w hb hd; have d3 := hd 3 (by decide) (by kernel_rfl); simp only [TR, Nat.reduceAdd, Nat.reduceSub, List.getD_cons_zero, List.getD_cons_succ] at d3; clear hd; obtain ⟨k, hkm, e3⟩ := isIdx_elim d3; simp only [List.take, putL, Act.put, List.setIfInBounds_toArray, List.set_cons_zero, List.set_cons_succ]; unfold StepOK; go_simp; exact ⟨Below.refl _ _, 1 + (k : Int), by omega, by omega, by rw [IntWalk.i64_in _ (by omega)]⟩
        refine RunL.such (isHd q.N) (isHd_stable _) ?_ ?_
        · intro vs w hb hd; have d1 : isV _ (vs 1) w := hd 1 (by decide) (by kernel_rfl); unfold isV at d1; have d4 := hd 4 (by decide) (by kernel_rfl); simp only [TR, Nat.reduceAdd, Nat.reduceSub, List.getD_cons_zero, List.getD_cons_succ] at d4; clear hd; obtain ⟨k, hk1, hk2, e4⟩ := isCost_elim d4; simp only [List.take, putL, Act.put, List.setIfInBounds_toArray, List.set_cons_zero, List.set_cons_succ]; unfold StepOK; go_simp; exact ⟨Below.refl _ _, k, hk1, hk2, rfl⟩
        refine RunL.such (isHs w.heap.size q.N) (isHs_stable _ _) ?_ ?_
        · intro vs w hb hd; have d5 := hd 5 (by decide) (by kernel_rfl); simp only [TR, Nat.reduceAdd, Nat.reduceSub, List.getD_cons_zero, List.getD_cons_succ] at d5; clear hd; obtain ⟨k, hk1, hk2, e5⟩ := isHd_elim d5; simp only [List.take, putL, Act.put, List.setIfInBounds_toArray, List.set_cons_zero, List.set_cons_succ]; unfold StepOK; go_simp; have hsz := hb.size; exact ⟨below_alloc1 _ _, _, k, hk1, hk2, rfl, ⟨(sl_cells _ [.string (bstr q.N), .int .i64 k] 45).cells, rfl, Nat.le_refl _, fun h => by cases h⟩, fun a ha => by cases ha; simp only; omega⟩
        refine RunL.such (isHs w.heap.size q.N) (isHs_stable _ _) ?_ ?_
        · intro vs w hb hd; have d0 : isV _ (vs 0) w := hd 0 (by decide) (by kernel_rfl); unfold isV at d0; have d1 : isV _ (vs 1) w := hd 1 (by decide) (by kernel_rfl); unfold isV at d1; have d2 : isV _ (vs 2) w := hd 2 (by decide) (by kernel_rfl); unfold isV at d2; have d3 := hd 3 (by decide) (by kernel_rfl); simp only [TR, Nat.reduceAdd, Nat.reduceSub, List.getD_cons_zero, List.getD_cons_succ] at d3; have d4 := hd 4 (by decide) (by kernel_rfl); simp only [TR, Nat.reduceAdd, Nat.reduceSub, List.getD_cons_zero, List.getD_cons_succ] at d4; have d5 := hd 5 (by decide) (by kernel_rfl); simp only [TR, Nat.reduceAdd, Nat.reduceSub, List.getD_cons_zero, List.getD_cons_succ] at d5; have d6 := hd 6 (by decide) (by kernel_rfl); simp only [TR, Nat.reduceAdd, Nat.reduceSub, List.getD_cons_zero, List.getD_cons_succ] at d6; clear hd; obtain ⟨A2, k, hk1, hk2, e6, hsl, hfr⟩ := isHs_elim d6; simp only [List.take, putL, Act.put, List.setIfInBounds_toArray, List.set_cons_zero, List.set_cons_succ]; unfold StepOK; go_simp; exact ⟨Below.refl _ _, A2, k, hk1, hk2, rfl, hsl, hfr⟩
        intro vs w1 hb hd
        have e0 : isV _ (vs 0) w1 := hd 0 (by decide)
        have e1 : isV _ (vs 1) w1 := hd 1 (by decide)
        have e2 : isV _ (vs 2) w1 := hd 2 (by decide)
        have e3 := hd 3 (by decide); simp only [TR, Nat.reduceAdd, Nat.reduceSub, List.getD_cons_zero, List.getD_cons_succ] at e3
        have e4 := hd 4 (by decide); simp only [TR, Nat.reduceAdd, Nat.reduceSub, List.getD_cons_zero, List.getD_cons_succ] at e4
        have e5 := hd 5 (by decide); simp only [TR, Nat.reduceAdd, Nat.reduceSub, List.getD_cons_zero, List.getD_cons_succ] at e5
        have e6 := hd 6 (by decide); simp only [TR, Nat.reduceAdd, Nat.reduceSub, List.getD_cons_zero, List.getD_cons_succ] at e6
        have e7 := hd 7 (by decide); simp only [TR, Nat.reduceAdd, Nat.reduceSub, List.getD_cons_zero, List.getD_cons_succ] at e7
        clear hd
        unfold isV at e0 e1 e2
        simp only [putL, Act.put, List.setIfInBounds_toArray, List.set_cons_zero, List.set_cons_succ, e0, e1, e2]
        clear e0 e1 e2
        --@end
        obtain ⟨A2, cst, hc1, hc2, e7', sH, hA2⟩ := isHs_elim e7
        simp only [Nat.reduceAdd, e7']
        have o5 := o4.below hb
        have oq5 := oq.below hb
        have bD := bC.trans (hb.mono bC.size)
        have hsE := hs.below bD
        clear e3 e4 e5 e6 e7 hb o4 oq bC
        try clear e7'
        obtain ⟨hsq, hhs⟩ : ∃ h : List Hd, h = [⟨q.N, cst⟩] := ⟨_, rfl⟩
        rw [← hhs] at sH
        have hC : ∀ x, x ∈ hsq → 1 ≤ x.C ∧ x.C ≤ 1000 := by
          intro x hx; rw [hhs] at hx; simp at hx; subst hx; exact ⟨hc1, hc2⟩
        have hcq : costOf hsq q.N ≠ 0 := by rw [hhs]; simp [costOf]; omega
        have hcn : ∀ s, costOf hsq s ≠ 0 → s = q.N := by
          intro s h
          rw [hhs] at h
          apply Classical.byContradiction
          intro hn
          apply h
          simp [costOf, List.find?, show (q.N = s) = False from eq_false (fun e => hn e.symm)]
        have hqok := hg.ok
        have hmay : ∀ ts' : List Tn, q.N ∈ ts'.map Tn.N → MayOK ts' hsq := by
          intro ts' hts'
          refine ⟨by rw [hhs]; simp, fun h hh => ?_⟩
          have h0 := hC h hh
          rw [hhs] at hh
          simp at hh
          subst hh
          refine ⟨?_, placeI_mem hts', h0.1, h0.2⟩
          obtain ⟨j, hj, he⟩ := List.getElem_of_mem hqm
          have := (okT_iff.1 (hqok j q (by rw [← Hts.out, List.getElem?_eq_getElem hj, he]))).1
          simp [namedB] at this
          exact this.2
        have hne : hsq ≠ [] := by rw [hhs]; simp
        have hmem : q.N ∈ f.ts.map Tn.N := by rw [← Hts.out]; exact List.mem_map_of_mem hqm
        have HhC := Lib.hid hC
        have Hcq := Lib.hid hcq
        have Hcn := Lib.hid hcn
        have Hmay := Lib.hid hmay
        have Hmem := Lib.hid hmem
        have HG := Lib.hid hg
        have hl0 : m = f.ts.length := by rw [← Hts.out]; exact Hl.out.symm
        rw [hl0] at o5 hsE
        have hd4 : ((m : Int) == 0) = false := by simp; omega
        try simp only [hd4]
        clear hC hcq hcn hmay hmem hg hl0 hhs hqok hqm hd4
        go_wp2_with fail
        go_loopw [42] (fun s42 wx => ∃ (i : Nat) (f1 : Fr) (A1 : Option Addr) (c1 : Nat), i ≤ 3 ∧ s42 = .int .i64 (i : Int) ∧ Own w.heap.size 36 1 wx (some ⟨w.heap.size, 0, none⟩) 4 4 (frC f1.Q A1 f1.ts.length c1 f1.At f1.H) ∧ Sl wx 3 A1 f1.ts.length c1 (flatT f1.ts) ∧ Own w.heap.size 51 1 wx (some ⟨g, 0, none⟩) 3 3 q.cells ∧ Sl wx 2 A2 1 1 (flatH hsq) ∧ Hid (Gd f1) ∧ Hid (q.N ∈ f1.ts.map Tn.N) ∧ Below w.heap.size w wx) (fun iv _ => 3 - (intOf iv).toNat)
        case atStart => exact ⟨0, f, some ad, d, by omega, rfl, o5, hsE, oq5, sH, HG, Hmem, bD⟩
        case round =>
          obtain ⟨i, f1, A1, c1, hi, rfl, oF, sF, oQ, sX, HG1, HM1, bF⟩ := hrel
          by_cases g1 : (i : Int) < 3
          · obtain ⟨n, fr, hpk⟩ := pick_ex' HhC.out HG1.out Hcq.out HM1.out
            obtain ⟨p1, p2, p3, k, q1, p4, p5, p6⟩ := pickN_spec HhC.out n f1 fr HG1.out hpk
            have hq1N := Hcn.out q1.N p6
            have Hp1 := Lib.hid p1
            have Hp2 := Lib.hid (show q.N ∈ fr.ts.map Tn.N by rw [p2]; exact HM1.out)
            have Hp4 := Lib.hid p4
            have Hp5 := Lib.hid p5
            have HqN := Lib.hid hq1N
            have Hpk := Lib.hid hpk
            clear p1 p2 p3 p4 p5 p6 hq1N hpk
            have y0 := World.ownsRow.cellAt oF 0 (by omega)
            have y1 := World.ownsRow.cellAt oF 1 (by omega)
            have y2 := World.ownsRow.cellAt oF 2 (by omega)
            have y3 := World.ownsRow.cellAt oF 3 (by omega)
            simp only [frC, List.getElem?_cons_succ, List.getElem?_cons_zero] at y0 y1 y2 y3
            go_wp2_with fail
            refine (pick_any f1 fr hsq n k q1 A1 A2 c1 1 1 _ sF sX (by omega) HG1.out (Hmay.out f1.ts HM1.out) hne Hpk.out Hp4.out Hp5.out).mono ?_; rintro x w7 ⟨A7, c7, rfl, s7, b7, f7⟩
            have hsz7 := (World.ownsRow.lt oF w.heap.size rfl).2
            have hsz8 := b7.size
            obtain ⟨ad7, rfl⟩ : ∃ ad7, A7 = some ad7 := slT_addr s7 Hp5.out
            have hf7 := f7 ad7 rfl
            rw [HqN.out]
            have oF8 := oF.below b7
            have oQ8 := oQ.below b7
            have sX8 := sX.below b7
            have bH := bF.trans (b7.mono bF.size)
            clear y0 y1 y2 y3 oF oQ sX bF b7 sF f7
            have o9 : Own w7.heap.size 36 1 (w7.alloc (.cells (frC fr.Q (some ad7) fr.ts.length c7 fr.At fr.H).toArray 36)) (some ⟨w7.heap.size, 0, none⟩) 4 4 (frC fr.Q (some ad7) fr.ts.length c7 fr.At fr.H) := new_own w7 (frC fr.Q (some ad7) fr.ts.length c7 fr.At fr.H) 36 4 rfl (by unfold maxLen; omega)
            have b8 := below_alloc1 w7 (.cells (frC fr.Q (some ad7) fr.ts.length c7 fr.At fr.H).toArray 36)
            have oF9 := oF8.below b8
            have oq9 := oQ8.below b8
            have sX9 := sX8.below b8
            have s9 := s7.below b8
            have bI := bH.trans (b8.mono bH.size)
            simp only [frC] at o9 b8 oF9 s9 bI oq9 sX9
            clear b8 oF8 s7 bH oQ8 sX8
            unfold frV
            go_upto_region 8 with fail
            generalize w7.alloc (.cells #[.int .i64 fr.Q, .slice (some ad7) fr.ts.length c7, .int .i64 fr.At, .bool fr.H] 36) = w8 at *
            have hin : (0 : Int) ≤ (k : Int) ∧ (k : Int) < (fr.ts.length : Int) := by have := (List.getElem?_eq_some_iff.1 Hp5.out).1; omega
            rw [Hp4.out] at o9 ⊢
            --@region 5 8 al8.spec
            refine wp_region_lrun ?_
            apply RunL.pure
            · intro vs w hb hd; clear hd; simp only [List.take, putL, Act.put, List.setIfInBounds_toArray, List.set_cons_zero, List.set_cons_succ]; unfold StepOK; go_simp; exact ⟨Below.refl _ _, isV_mk _ _⟩
            apply RunL.pure
            · intro vs w hb hd; have d0 : isV _ (vs 0) w := hd 0 (by decide) (by kernel_rfl); unfold isV at d0; clear hd; simp only [List.take, putL, Act.put, List.setIfInBounds_toArray, List.set_cons_zero, List.set_cons_succ]; unfold StepOK; go_simp; exact ⟨Below.refl _ _, isV_mk _ _⟩
            apply RunL.pure
            · intro vs w hb hd; have d1 : isV _ (vs 1) w := hd 1 (by decide) (by kernel_rfl); unfold isV at d1; clear hd; simp only [List.take, putL, Act.put, List.setIfInBounds_toArray, List.set_cons_zero, List.set_cons_succ]; unfold StepOK; go_simp; exact ⟨Below.refl _ _, isV_mk _ _⟩
            apply RunL.pure
            · intro vs w hb hd; have d2 : isV _ (vs 2) w := hd 2 (by decide) (by kernel_rfl); unfold isV at d2; clear hd; simp only [List.take, putL, Act.put, List.setIfInBounds_toArray, List.set_cons_zero, List.set_cons_succ]; unfold StepOK; go_simp; exact ⟨Below.refl _ _, isV_mk _ _⟩
            apply RunL.pure
            · intro vs w hb hd; have d2 : isV _ (vs 2) w := hd 2 (by decide) (by kernel_rfl); unfold isV at d2; clear hd; simp only [List.take, putL, Act.put, List.setIfInBounds_toArray, List.set_cons_zero, List.set_cons_succ]; unfold StepOK; go_simp; exact ⟨Below.refl _ _, isV_mk _ _⟩
            apply RunL.pure
            · intro vs w hb hd; have d2 : isV _ (vs 2) w := hd 2 (by decide) (by kernel_rfl); unfold isV at d2; have d4 : isV _ (vs 4) w := hd 4 (by decide) (by kernel_rfl); unfold isV at d4; clear hd; have hc := World.ownsRow.cellAt (oq9.below hb) 0 (by omega); simp only [Tn.cells, List.getElem?_cons_succ, List.getElem?_cons_zero] at hc; simp only [List.take, putL, Act.put, List.setIfInBounds_toArray, List.set_cons_zero, List.set_cons_succ]; unfold StepOK; go_simp; exact ⟨Below.refl _ _, isV_mk _ _⟩
            apply RunL.pure
            · intro vs w hb hd; have d2 : isV _ (vs 2) w := hd 2 (by decide) (by kernel_rfl); unfold isV at d2; have d3 : isV _ (vs 3) w := hd 3 (by decide) (by kernel_rfl); unfold isV at d3; have d5 : isV _ (vs 5) w := hd 5 (by decide) (by kernel_rfl); unfold isV at d5; clear hd; simp only [List.take, putL, Act.put, List.setIfInBounds_toArray, List.set_cons_zero, List.set_cons_succ]; unfold StepOK; go_simp; exact ⟨Below.refl _ _, isV_mk _ _⟩
            apply RunL.pure
            · intro vs w hb hd; have d2 : isV _ (vs 2) w := hd 2 (by decide) (by kernel_rfl); unfold isV at d2; have d6 : isV _ (vs 6) w := hd 6 (by decide) (by kernel_rfl); unfold isV at d6; clear hd; simp only [List.take, putL, Act.put, List.setIfInBounds_toArray, List.set_cons_zero, List.set_cons_succ]; unfold StepOK; go_simp; exact ⟨Below.refl _ _, isV_mk _ _⟩
            apply RunL.pure
            · intro vs w hb hd; have d2 : isV _ (vs 2) w := hd 2 (by decide) (by kernel_rfl); unfold isV at d2; have d7 : isV _ (vs 7) w := hd 7 (by decide) (by kernel_rfl); unfold isV at d7; clear hd; simp only [List.take, putL, Act.put, List.setIfInBounds_toArray, List.set_cons_zero, List.set_cons_succ]; unfold StepOK; go_simp; exact ⟨Below.refl _ _, isV_mk _ _⟩
            apply RunL.pure
            · intro vs w hb hd; have d8 : isV _ (vs 8) w := hd 8 (by decide) (by kernel_rfl); unfold isV at d8; clear hd; have oX := o9.below hb; have k0 := World.ownsRow.cellAt oX 0 (by omega); have k1 := World.ownsRow.cellAt oX 1 (by omega); have k2 := World.ownsRow.cellAt oX 2 (by omega); have k3 := World.ownsRow.cellAt oX 3 (by omega); simp only [List.getElem?_cons_succ, List.getElem?_cons_zero] at k0 k1 k2 k3; simp only [List.take, putL, Act.put, List.setIfInBounds_toArray, List.set_cons_zero, List.set_cons_succ]; unfold StepOK; go_simp; exact ⟨Below.refl _ _, isV_mk _ _⟩
            refine RunL.such (isV (.bool true)) (isV_stable _) ?_ ?_
            · intro vs w hb hd; have d8 : isV _ (vs 8) w := hd 8 (by decide) (by kernel_rfl); unfold isV at d8; have d9 : isV _ (vs 9) w := hd 9 (by decide) (by kernel_rfl); unfold isV at d9; clear hd; simp only [List.take, putL, Act.put, List.setIfInBounds_toArray, List.set_cons_zero, List.set_cons_succ]; unfold StepOK; go_simp; exact ⟨Below.refl _ _, such_of_bool (fright_k fr (some ad7) c7 (k : Int) _ (s9.below hb) Hp1.out Hp4.out)⟩
            apply RunL.pure
            · intro vs w hb hd; have d8 : isV _ (vs 8) w := hd 8 (by decide) (by kernel_rfl); unfold isV at d8; have d10 := hd 10 (by decide) (by kernel_rfl); simp only [TR, Nat.reduceAdd, Nat.reduceSub, List.getD_cons_zero, List.getD_cons_succ] at d10; clear hd; unfold isV at d10; simp only [List.take, putL, Act.put, List.setIfInBounds_toArray, List.set_cons_zero, List.set_cons_succ]; unfold StepOK; go_simp; exact ⟨Below.refl _ _, isV_mk _ _⟩
            apply RunL.pure
            · intro vs w hb hd; have d8 : isV _ (vs 8) w := hd 8 (by decide) (by kernel_rfl); unfold isV at d8; have d11 : isV _ (vs 11) w := hd 11 (by decide) (by kernel_rfl); unfold isV at d11; clear hd; simp only [List.take, putL, Act.put, List.setIfInBounds_toArray, List.set_cons_zero, List.set_cons_succ]; unfold StepOK; go_simp; exact ⟨Below.refl _ _, isV_mk _ _⟩
            apply RunL.pure
            · intro vs w hb hd; have d10 := hd 10 (by decide) (by kernel_rfl); simp only [TR, Nat.reduceAdd, Nat.reduceSub, List.getD_cons_zero, List.getD_cons_succ] at d10; have d12 : isV _ (vs 12) w := hd 12 (by decide) (by kernel_rfl); unfold isV at d12; clear hd; simp only [List.take, putL, Act.put, List.setIfInBounds_toArray, List.set_cons_zero, List.set_cons_succ]; unfold StepOK; go_simp; exact ⟨Below.refl _ _, isV_mk _ _⟩
            apply RunL.pure
            · intro vs w hb hd; have d13 : isV _ (vs 13) w := hd 13 (by decide) (by kernel_rfl); unfold isV at d13; clear hd; simp only [List.take, putL, Act.put, List.setIfInBounds_toArray, List.set_cons_zero, List.set_cons_succ]; unfold StepOK; go_simp; exact ⟨Below.refl _ _, isV_mk _ _⟩
            apply RunL.pure
            · intro vs w hb hd; have d13 : isV _ (vs 13) w := hd 13 (by decide) (by kernel_rfl); unfold isV at d13; have d14 : isV _ (vs 14) w := hd 14 (by decide) (by kernel_rfl); unfold isV at d14; clear hd; have k1 := World.ownsRow.cellAt (o9.below hb) 1 (by omega); simp only [List.getElem?_cons_succ, List.getElem?_cons_zero] at k1; simp only [List.take, putL, Act.put, List.setIfInBounds_toArray, List.set_cons_zero, List.set_cons_succ]; unfold StepOK; go_simp; exact ⟨Below.refl _ _, isV_mk _ _⟩
            apply RunL.pure
            · intro vs w hb hd; have d13 : isV _ (vs 13) w := hd 13 (by decide) (by kernel_rfl); unfold isV at d13; clear hd; simp only [List.take, putL, Act.put, List.setIfInBounds_toArray, List.set_cons_zero, List.set_cons_succ]; unfold StepOK; go_simp; exact ⟨Below.refl _ _, isV_mk _ _⟩
            apply RunL.pure
            · intro vs w hb hd; have d13 : isV _ (vs 13) w := hd 13 (by decide) (by kernel_rfl); unfold isV at d13; have d16 : isV _ (vs 16) w := hd 16 (by decide) (by kernel_rfl); unfold isV at d16; clear hd; have k2 := World.ownsRow.cellAt (o9.below hb) 2 (by omega); simp only [List.getElem?_cons_succ, List.getElem?_cons_zero] at k2; simp only [List.take, putL, Act.put, List.setIfInBounds_toArray, List.set_cons_zero, List.set_cons_succ]; unfold StepOK; go_simp; exact ⟨Below.refl _ _, isV_mk _ _⟩
            apply RunL.pure
            · intro vs w hb hd; have d13 : isV _ (vs 13) w := hd 13 (by decide) (by kernel_rfl); unfold isV at d13; have d15 : isV _ (vs 15) w := hd 15 (by decide) (by kernel_rfl); unfold isV at d15; have d17 : isV _ (vs 17) w := hd 17 (by decide) (by kernel_rfl); unfold isV at d17; clear hd; have hq1 := hin; simp only [List.take, putL, Act.put, List.setIfInBounds_toArray, List.set_cons_zero, List.set_cons_succ]; unfold StepOK; go_simp; exact ⟨Below.refl _ _, isV_mk _ _⟩
            apply RunL.pure
            · intro vs w hb hd; have d13 : isV _ (vs 13) w := hd 13 (by decide) (by kernel_rfl); unfold isV at d13; have d18 : isV _ (vs 18) w := hd 18 (by decide) (by kernel_rfl); unfold isV at d18; clear hd; simp only [List.take, putL, Act.put, List.setIfInBounds_toArray, List.set_cons_zero, List.set_cons_succ]; unfold StepOK; go_simp; exact ⟨Below.refl _ _, isV_mk _ _⟩
            apply RunL.pure
            · intro vs w hb hd; have d13 : isV _ (vs 13) w := hd 13 (by decide) (by kernel_rfl); unfold isV at d13; have d19 : isV _ (vs 19) w := hd 19 (by decide) (by kernel_rfl); unfold isV at d19; clear hd; obtain ⟨z0, z1, z2⟩ := slT_three (s9.below hb) Hp5.out; rw [HqN.out] at z0; simp only [List.take, putL, Act.put, List.setIfInBounds_toArray, List.set_cons_zero, List.set_cons_succ]; unfold StepOK; go_simp; exact ⟨Below.refl _ _, isV_mk _ _⟩
            apply RunL.pure
            · intro vs w hb hd; have d13 : isV _ (vs 13) w := hd 13 (by decide) (by kernel_rfl); unfold isV at d13; clear hd; simp only [List.take, putL, Act.put, List.setIfInBounds_toArray, List.set_cons_zero, List.set_cons_succ]; unfold StepOK; go_simp; exact ⟨Below.refl _ _, isV_mk _ _⟩
            apply RunL.pure
            · intro vs w hb hd; have d13 : isV _ (vs 13) w := hd 13 (by decide) (by kernel_rfl); unfold isV at d13; have d20 : isV _ (vs 20) w := hd 20 (by decide) (by kernel_rfl); unfold isV at d20; have d21 : isV _ (vs 21) w := hd 21 (by decide) (by kernel_rfl); unfold isV at d21; clear hd; simp only [List.take, putL, Act.put, List.setIfInBounds_toArray, List.set_cons_zero, List.set_cons_succ]; unfold StepOK; go_simp; exact ⟨Below.refl _ _, isV_mk _ _⟩
            apply RunL.pure
            · intro vs w hb hd; have d13 : isV _ (vs 13) w := hd 13 (by decide) (by kernel_rfl); unfold isV at d13; have d22 : isV _ (vs 22) w := hd 22 (by decide) (by kernel_rfl); unfold isV at d22; clear hd; simp only [List.take, putL, Act.put, List.setIfInBounds_toArray, List.set_cons_zero, List.set_cons_succ]; unfold StepOK; go_simp; exact ⟨Below.refl _ _, isV_mk _ _⟩
            intro vs w1 hb hd
            have e0 : isV _ (vs 0) w1 := hd 0 (by decide)
            have e1 : isV _ (vs 1) w1 := hd 1 (by decide)
            have e2 : isV _ (vs 2) w1 := hd 2 (by decide)
            have e3 : isV _ (vs 3) w1 := hd 3 (by decide)
            have e4 : isV _ (vs 4) w1 := hd 4 (by decide)
            have e5 : isV _ (vs 5) w1 := hd 5 (by decide)
            have e6 : isV _ (vs 6) w1 := hd 6 (by decide)
            have e7 : isV _ (vs 7) w1 := hd 7 (by decide)
            have e8 : isV _ (vs 8) w1 := hd 8 (by decide)
            have e9 : isV _ (vs 9) w1 := hd 9 (by decide)
            have e10 := hd 10 (by decide); simp only [TR, Nat.reduceAdd, Nat.reduceSub, List.getD_cons_zero, List.getD_cons_succ] at e10
            have e11 : isV _ (vs 11) w1 := hd 11 (by decide)
            have e12 : isV _ (vs 12) w1 := hd 12 (by decide)
            have e13 : isV _ (vs 13) w1 := hd 13 (by decide)
            have e14 : isV _ (vs 14) w1 := hd 14 (by decide)
            have e15 : isV _ (vs 15) w1 := hd 15 (by decide)
            have e16 : isV _ (vs 16) w1 := hd 16 (by decide)
            have e17 : isV _ (vs 17) w1 := hd 17 (by decide)
            have e18 : isV _ (vs 18) w1 := hd 18 (by decide)
            have e19 : isV _ (vs 19) w1 := hd 19 (by decide)
            have e20 : isV _ (vs 20) w1 := hd 20 (by decide)
            have e21 : isV _ (vs 21) w1 := hd 21 (by decide)
            have e22 : isV _ (vs 22) w1 := hd 22 (by decide)
            have e23 : isV _ (vs 23) w1 := hd 23 (by decide)
            clear hd
            unfold isV at e0 e1 e2 e3 e4 e5 e6 e7 e8 e9 e11 e12 e13 e14 e15 e16 e17 e18 e19 e20 e21 e22 e23
            simp only [putL, Act.put, List.setIfInBounds_toArray, List.set_cons_zero, List.set_cons_succ, e0, e1, e2, e3, e4, e5, e6, e7, e8, e9, e11, e12, e13, e14, e15, e16, e17, e18, e19, e20, e21, e22, e23]
            clear e0 e1 e2 e3 e4 e5 e6 e7 e8 e9 e11 e12 e13 e14 e15 e16 e17 e18 e19 e20 e21 e22 e23
            --@end
            rename_i w9
            have o10 := o9.below hb
            have oF10 := oF9.below hb
            have oq10 := oq9.below hb
            have sX10 := sX9.below hb
            have s10 := s9.below hb
            have bJ := bI.trans (hb.mono bI.size)
            try clear e10
            clear o9 oF9 oq9 sX9 s9 bI hb hin
            have z0 := World.ownsRow.cellAt o10 0 (by omega)
            have z1 := World.ownsRow.cellAt o10 1 (by omega)
            have z2 := World.ownsRow.cellAt o10 2 (by omega)
            have z3 := World.ownsRow.cellAt o10 3 (by omega)
            simp only [List.getElem?_cons_succ, List.getElem?_cons_zero] at z0 z1 z2 z3
            have y0 := World.ownsRow.cellAt oF10 0 (by omega)
            have y1 := World.ownsRow.cellAt oF10 1 (by omega)
            have y2 := World.ownsRow.cellAt oF10 2 (by omega)
            have y3 := World.ownsRow.cellAt oF10 3 (by omega)
            simp only [List.getElem?_cons_succ, List.getElem?_cons_zero] at y0 y1 y2 y3
            have x0 := World.ownsRow.frozenAt oF10 0
            have x1 := World.ownsRow.frozenAt oF10 1
            have x2 := World.ownsRow.frozenAt oF10 2
            have x3 := World.ownsRow.frozenAt oF10 3
            have st := stored4 oF10 (.int .i64 fr.Q) (.slice (some ad7) fr.ts.length c7) (.int .i64 (k : Int)) (.bool fr.H)
            have s11 := s10.grown st.2 (fun a ha he => by
              cases ha
              have e1 : ad7.block = w.heap.size := Option.some.inj he
              omega)
            have sX11 := sX10.grown st.2 (fun a ha he => by
              have e1 : a.block = w.heap.size := Option.some.inj he
              have := hA2 a ha
              omega)
            have oq11 := Own.apart oq10 st.2 (by omega)
            have bK := bJ.grown st.2 bJ.size (fun j hj => by cases hj; exact Nat.le_refl _)
            have oK := st.1
            clear st s10 sX10 oq10 bJ o10 oF10
            go_wp2_with fail
            go_roundw
            case rel => exact ⟨i + 1, fr, some ad7, c7, by omega, by go_num, by rw [Hp4.out]; exact oK, s11, oq11, sX11, Hp1, Hp2, bK⟩
            case measure => simp [intOf]; omega
          · obtain rfl : i = 3 := by omega
            go_wp2_with (go_at_call 23; refine (awake17_any _).mono ?_; rintro x w6 ⟨rfl, hn6⟩)
            go_ret
            exact ⟨rfl, bF.trans (hn6.mono bF.size)⟩
end Go.Proofs.Ytphjmbhlokkdiaa
