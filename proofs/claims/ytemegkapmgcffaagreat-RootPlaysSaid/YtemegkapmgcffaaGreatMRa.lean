import Derived.Test.YtemegkapmgcffaaGreatMFr
import Derived.Test.YtemegkapmgcffaaGreatMWb
import Derived.Test.YtemegkapmgcffaaGreatMDd
/- Roots: right, name, SameRoot, Bytes. -/
namespace Go.Proofs.YtemegkapmgcffaaGreat
open Go.RowKit
set_option linter.unusedSimpArgs false
set_option linter.unusedVariables false

structure Rt where
  s : Int
  b : Int
  x : List UInt8
/-- a root in memory -/
def rtC (s b : Int) (A : Option Addr) (n c : Nat) : List Value := [.int .i64 s, .int .i64 b, .slice A n c]
def rightR (s b : Int) (n : Nat) : Bool := decide (1 ≤ s) && (decide (s ≤ 1099511627776) && (decide (0 ≤ b) && (decide (b ≤ 576460752303423488) && decide (n ≤ 524288))))
def rootB (s b : Nat) (x : List UInt8) : List UInt8 := uv s ++ (uv b ++ (uv x.length ++ x))
def bytesR (s b : Int) (x : List UInt8) : List UInt8 × Int := if rightR s b x.length = true then (frm (rootB s.toNat b.toNat x), 0) else ([], 2)
theorem box_cellsR (w : World) (cs : List Value) (t : TypeId) (j : Nat) (u : Value) (h : cs[j]? = some u) : (w.alloc (.cells cs.toArray t)).cell? ⟨w.heap.size, j, none⟩ = some u := by
  obtain ⟨a, h1, h2⟩ := (sl_cells w cs t).cells j u h
  cases h1
  rwa [add_plain] at h2
theorem rightR_iff (s b : Int) (n : Nat) : rightR s b n = true ↔ (1 ≤ s ∧ s ≤ 1099511627776 ∧ 0 ≤ b ∧ b ≤ 576460752303423488 ∧ n ≤ 524288) := by
  unfold rightR
  simp only [Bool.and_eq_true, decide_eq_true_eq]
set_option maxRecDepth 100000 in
set_option maxHeartbeats 4000000 in
theorem right_any (s b : Int) (A : Option Addr) (n c : Nat) (w : World) :
    Calls Tryz.prog 70 #[.agg #[.int .i64 s, .int .i64 b, .slice A n c]] w fun e w' => e = .returned (.bool (rightR s b n)) ∧ Below w.heap.size w w' := by
  have HL := Lib.hid (rightR_iff s b n)
  have hb := below_alloc1 w (.cells (rtC s b A n c).toArray 36)
  have c0 := box_cellsR w (rtC s b A n c) 36 0 _ rfl
  have c1 := box_cellsR w (rtC s b A n c) 36 1 _ rfl
  have c2 := box_cellsR w (rtC s b A n c) 36 2 _ rfl
  go_enter Tryz.func70, Tryz.ntmps70
  go_wp2_with fail
  all_goals
    go_ret
    refine ⟨ret_bool ?_, hb⟩
    rw [HL.out]
    simp only [decide_eq_true_eq, Bool.false_eq_true, false_iff, true_iff]
    omega
set_option maxRecDepth 100000 in
set_option maxHeartbeats 4000000 in
theorem sameRoot_any (s b s2 b2 : Int) (A A2 : Option Addr) (n c n2 c2 : Nat) (x y : List UInt8) (w : World) (hs : Sl w 1 A n c (bytesV x)) (ht : Sl w 1 A2 n2 c2 (bytesV y)) :
    Calls Tryz.prog 20 #[.agg #[.int .i64 s, .int .i64 b, .slice A n c], .agg #[.int .i64 s2, .int .i64 b2, .slice A2 n2 c2]] w fun e w' => e = .returned (.bool (decide (s = s2) && (decide (b = b2) && (x == y)))) ∧ Below w.heap.size w w' := by
  obtain ⟨w1, hw1⟩ : ∃ w1, w1 = w.alloc (.cells (rtC s b A n c).toArray 36) := ⟨_, rfl⟩
  obtain ⟨w2, hw2⟩ : ∃ w2, w2 = w1.alloc (.cells (rtC s2 b2 A2 n2 c2).toArray 36) := ⟨_, rfl⟩
  have hb1 : Below w.heap.size w w1 := by rw [hw1]; exact below_alloc1 _ _
  have hb2 : Below w1.heap.size w1 w2 := by rw [hw2]; exact below_alloc1 _ _
  have hz1 : w1.heap.size = w.heap.size + 1 := by rw [hw1]; simp
  have hb := hb1.trans (hb2.mono hb1.size)
  have key1 : ∀ j u, (rtC s b A n c)[j]? = some u → w2.cell? ⟨w.heap.size, j, none⟩ = some u := fun j u hj => by
    have h1 : w1.cell? ⟨w.heap.size, j, none⟩ = some u := by rw [hw1]; exact box_cellsR w _ _ j u hj
    exact (World.cell?_of_block (hb2.block _ (by show w.heap.size < _; omega))).trans h1
  have key2 : ∀ j u, (rtC s2 b2 A2 n2 c2)[j]? = some u → w2.cell? ⟨w1.heap.size, j, none⟩ = some u := fun j u hj => by rw [hw2]; exact box_cellsR w1 _ _ j u hj
  rw [hz1] at key2
  have a0 := key1 0 _ rfl
  have a1 := key1 1 _ rfl
  have a2 := key1 2 _ rfl
  have b0 := key2 0 _ rfl
  have b1 := key2 1 _ rfl
  have b22 := key2 2 _ rfl
  clear key1 key2
  have HS := Lib.hid (sameBytes_any A A2 n c n2 c2 x y w2 (hs.below hb) (ht.below hb))
  have HB := Lib.hid hb
  have eW : (w.alloc (.cells #[.int .i64 s, .int .i64 b, .slice A n c] 36)).alloc (.cells #[.int .i64 s2, .int .i64 b2, .slice A2 n2 c2] 36) = w2 := by rw [hw2, hw1]; rfl
  clear hb hb1 hb2 hw1 hw2 hz1
  go_enter Tryz.func20, Tryz.ntmps20
  go_upto_region 1 with fail
  clear eW
  by_cases e1 : s = s2
  · by_cases e2 : b = b2
    · go_wp2_with fail
      refine HS.out.mono ?_; rintro e w3 ⟨rfl, rfl⟩
      go_wp2_with fail
      go_ret
      exact ⟨by simp [e1, e2], HB.out⟩
    · go_wp2_with fail
      go_ret
      exact ⟨by simp [e2], HB.out⟩
  · go_wp2_with fail
    go_ret
    exact ⟨by simp [e1], HB.out⟩
theorem Sl.grownE {w w' : World} {size n c : Nat} {A : Option Addr} {cs : List Value} {row : Option Nat} (h : Sl w size A n c cs) (hg : w.grownBy w' row)
    (hne : cs ≠ [] → ∀ ad, A = some ad → some ad.block ≠ row) : Sl w' size A n c cs := by
  cases cs with
  | nil => exact ⟨fun j u hj => by simp at hj, h.len, h.le, h.none⟩
  | cons v r => exact h.grown hg (hne (by simp))
set_option maxHeartbeats 400000 in
theorem blobE_any (base : Nat) (A B : Option Addr) (n0 c m d : Nat) (l b : List UInt8) (w : World) (ha : App base 5 1 w A n0 c (bytesV l)) (hb : base ≤ w.heap.size)
    (hs : Sl w 1 B m d (bytesV b)) (hsep : bytesV b ≠ [] → ∀ ad, B = some ad → some ad.block ≠ rowOf base A)
    (hl : n0 ≤ 70368744175616) (hm : m ≤ 70368744175616) :
    Calls Tryz.prog 72 #[.slice A n0 c, .slice B m d] w fun e w' => ∃ A' n' c', e = .returned (.slice A' n' c') ∧
      AppTo base 5 1 w w' A A' n' c' (bytesV (l ++ (uv b.length ++ b))) := by
  have hbl := hs.blen
  have hll := ha.sl.blen
  have hu := uv_len_ten m (by omega)
  go_enter Tryz.func72, Tryz.ntmps72
  go_wp2_with (first | (go_at_call 73; refine (uint_at base _ _ _ l m _ _ ha hb (by omega) (by omega) rfl).mono ?_; rintro e w1 ⟨A1, n1, c1, rfl, hto⟩; have hn1 := hto.app.sl.blen; rw [List.length_append] at hn1) | (at_builtin; refine wpList_app _ rfl _ _ 34 rfl base 5 (.int .u8 0) 1 1 Tryz.underlying34 infoByte rfl (by decide) A1 n1 c1 (bytesV (l ++ uv m)) rfl hto.app B m d (bytesV b) rfl (hs.grownE hto.grown hsep) (bytesV_one b) (by unfold maxLen; omega) (by omega) (by have := hto.grown.size; omega) ?_; intro A2 d2 w2 hat))
  go_ret
  refine ⟨A2, _, d2, rfl, ?_⟩
  rw [hbl, ← List.append_assoc, bytesV_append]
  exact hto.trans hat
section
variable {P : Program} {Q : Exit → Act → World → Prop} {R : World → World → Prop} {es : List Nat} {l0 : List Oper} {a0 : Act} {w0 : World} {k : Nat} {o : Oper} {r : List Oper} {Ts : List (Value → World → Prop)} {J : Value → World → Prop}
/-- as eff, and a predicate of its value is kept -/
theorem RunE.effT (hk : k ∈ es) (J' : Value → World → Prop) (hJ : Stable J') (T : Value → World → Prop) (hT : StableR R T) (hc : ∀ v w, J' v w → T v w)
    (h : ∀ (vs : Nat → Value) (w : World), R w0 w → (∀ j, j < k → waitsFor o j = true → TR Ts k j (vs j) w) → J (lastV (prevE es k) vs) w → StepE P l0.toArray R J' o (putL (l0.take k) 0 vs a0) w)
    (hr : RunE P Q R es l0 a0 w0 (k + 1) r (T :: Ts) J') : RunE P Q R es l0 a0 w0 k (o :: r) Ts J := .inr ⟨hk, J', T, hJ, hT, hc, h, hr⟩
end
/-- a tuple of a slice and 0 -/
def isT0 : Value → World → Prop := fun v _ => ∃ A n c, v = .tuple #[.slice A n c, .int .i64 0]
theorem isT0_st {R : World → World → Prop} : StableR R isT0 := fun _ _ _ _ h => h
def Jt (N0 : Nat) (w0 : World) (l : List UInt8) : Value → World → Prop := fun v w => Below N0 w0 w ∧ ∃ A n c, v = .tuple #[.slice A n c, .int .i64 0] ∧ Own N0 5 1 w A n c (bytesV l)
theorem Jt_stable (N0 : Nat) (w0 : World) (l : List UInt8) (hN : N0 ≤ w0.heap.size) : Stable (Jt N0 w0 l) := fun _ _ _ hb ⟨h0, A, n, c, e, h⟩ => ⟨h0.trans (hb.mono (Nat.le_trans hN h0.size)), A, n, c, e, Own.below h hb⟩
theorem Jt.t0 {N0 : Nat} {w0 : World} {l : List UInt8} (v : Value) (w : World) (h : Jt N0 w0 l v w) : isT0 v w := by obtain ⟨_, A, n, c, e, _⟩ := h; exact ⟨A, n, c, e⟩
/-- what lay below N0 stays -/
def Rz (N0 : Nat) (w w' : World) : Prop := N0 ≤ w.heap.size → N0 ≤ w'.heap.size ∧ ∀ k, k < N0 → w'.heap[k]? = w.heap[k]?
theorem Rz.below {N0 : Nat} (w w' : World) (h : Below w.heap.size w w') : Rz N0 w w' := fun hN => ⟨Nat.le_trans hN h.size, fun k hk => h.block k (by omega)⟩
theorem Rz.trans {N0 : Nat} (w w1 w2 : World) (h : Rz N0 w w1) (k : Rz N0 w1 w2) : Rz N0 w w2 := fun hN =>
  ⟨(k (h hN).1).1, fun i hi => ((k (h hN).1).2 i hi).trans ((h hN).2 i hi)⟩
theorem Rz.bel {N0 : Nat} {w w' : World} (h : Below N0 w w') : Rz N0 w w' := fun hN => ⟨Nat.le_trans hN h.size, h.block⟩
/-- bytes of the call's own -/
def Jz (N0 : Nat) (w0 : World) (l : List UInt8) : Value → World → Prop := fun v w => Below N0 w0 w ∧ ∃ A n c, v = .slice A n c ∧ App N0 5 1 w A n c (bytesV l)
theorem Jz_stable (N0 : Nat) (w0 : World) (l : List UInt8) (hN : N0 ≤ w0.heap.size) : Stable (Jz N0 w0 l) := fun _ _ _ hb ⟨h0, A, n, c, e, h⟩ => ⟨h0.trans (hb.mono (Nat.le_trans hN h0.size)), A, n, c, e, h.below hb⟩
def Jo (N0 : Nat) (w0 : World) (l : List UInt8) : Value → World → Prop := fun v w => Below N0 w0 w ∧ ∃ A n c, v = .slice A n c ∧ Own N0 5 1 w A n c (bytesV l)
theorem Jo_stable (N0 : Nat) (w0 : World) (l : List UInt8) (hN : N0 ≤ w0.heap.size) : Stable (Jo N0 w0 l) := fun _ _ _ hb ⟨h0, A, n, c, e, h⟩ => ⟨h0.trans (hb.mono (Nat.le_trans hN h0.size)), A, n, c, e, Own.below h hb⟩
def J0z (N0 : Nat) (w0 : World) : Value → World → Prop := fun _ w => Below N0 w0 w
theorem J0z_stable (N0 : Nat) (w0 : World) (hN : N0 ≤ w0.heap.size) : Stable (J0z N0 w0) := fun _ _ _ hb h0 => h0.trans (hb.mono (Nat.le_trans hN h0.size))
set_option maxRecDepth 100000 in
set_option maxHeartbeats 4000000 in
theorem Bytes_any (s b : Int) (A : Option Addr) (n c : Nat) (x : List UInt8) (w : World) (hs : Sl w 1 A n c (bytesV x)) (hA : bytesV x ≠ [] → ∀ a, A = some a → a.block < w.heap.size) :
    Calls Tryz.prog 24 #[.agg #[.int .i64 s, .int .i64 b, .slice A n c]] w fun e w' => ∃ A' c', e = .returned (.tuple #[.slice A' (bytesR s b x).1.length c', .int .i64 (bytesR s b x).2]) ∧
      Own w.heap.size 5 1 w' A' (bytesR s b x).1.length c' (bytesV (bytesR s b x).1) ∧ Below w.heap.size w w' := by
  have hn := hs.blen
  obtain ⟨w1, hw1⟩ : ∃ w1, w1 = w.alloc (.cells (rtC s b A n c).toArray 36) := ⟨_, rfl⟩
  have hb1 : Below w.heap.size w w1 := by rw [hw1]; exact below_alloc1 _ _
  have hz1 : w1.heap.size = w.heap.size + 1 := by rw [hw1]; simp
  have key : ∀ w2, Below w1.heap.size w1 w2 → ∀ j u, (rtC s b A n c)[j]? = some u → w2.cell? ⟨w.heap.size, j, none⟩ = some u := fun w2 h2 j u hj => by
    have h1 : w1.cell? ⟨w.heap.size, j, none⟩ = some u := by rw [hw1]; exact box_cellsR w _ _ j u hj
    exact (World.cell?_of_block (h2.block _ (by show w.heap.size < _; omega))).trans h1
  have HK := Lib.hid key
  have c0 := key w1 (Below.refl _ _) 0 _ rfl
  have c1 := key w1 (Below.refl _ _) 1 _ rfl
  have c2 := key w1 (Below.refl _ _) 2 _ rfl
  have eW : (w.alloc (.cells #[.int .i64 s, .int .i64 b, .slice A n c] 36)) = w1 := by rw [hw1]; rfl
  have HB := Lib.hid hb1
  have HS := Lib.hid (hs.below hb1)
  clear key hb1 hw1
  go_enter Tryz.func24, Tryz.ntmps24
  go_upto_region 1 with fail
  clear eW
  go_wp2_with fail
  refine (right_any s b A n c w1).mono ?_; rintro e w2 ⟨rfl, hb2⟩
  have HB2 := Lib.hid (HB.out.trans (hb2.mono HB.out.size))
  by_cases hr : rightR s b n = true
  · have hr2 := (rightR_iff s b n).1 hr
    rw [hr]
    obtain ⟨S, hS⟩ : ∃ S : Nat, S = s.toNat := ⟨_, rfl⟩
    obtain ⟨B, hB⟩ : ∃ B : Nat, B = b.toNat := ⟨_, rfl⟩
    have eS : s = (S : Int) := by omega
    have eB : b = (B : Int) := by omega
    have HR := Lib.hid (show bytesR s b x = (frm (rootB S B x), 0) by unfold bytesR; rw [hn, if_pos hr, hS, hB])
    have hwS : IntKind.u64.wrap (S : Int) = (S : Int) := by rw [IntKind.wrap_u64]; omega
    have hwB : IntKind.u64.wrap (B : Int) = (B : Int) := by rw [IntKind.wrap_u64]; omega
    have hSl : S < 18446744073709551616 := by omega
    have hBl : B < 18446744073709551616 := by omega
    have hnl : n ≤ 524288 := hr2.2.2.2.2
    have hN1 : w1.heap.size ≤ w2.heap.size := hb2.size
    have HA : Hid (∀ w3, Below w2.heap.size w2 w3 → Sl w3 1 A n c (bytesV x)) := Lib.hid fun w3 h3 => (HS.out.below (hb2.trans (h3.mono hb2.size)))
    have HC : Hid (∀ w3, Rz w2.heap.size w2 w3 → ∀ j u, (rtC s b A n c)[j]? = some u → w3.cell? ⟨w.heap.size, j, none⟩ = some u) := Lib.hid fun w3 h3 j u hj => by
      have h4 := HK.out w2 hb2 j u hj
      exact (World.cell?_of_block ((h3 (Nat.le_refl _)).2 w.heap.size (by omega))).trans h4
    have HAne : Hid (bytesV x ≠ [] → ∀ a, A = some a → a.block < w2.heap.size) := Lib.hid fun h a ha => by have := hA h a ha; omega
    have HLN : Hid (∀ n1 : Nat, n1 = (rootB S B x).length → 0 < n1 ∧ n1 ≤ 1048576) := Lib.hid fun n1 h1 => by
      unfold rootB at h1
      simp only [List.length_append] at h1
      have g1 := uv_len_ten S hSl
      have g2 := uv_len_ten B hBl
      have g3 := uv_len_ten x.length (by omega)
      have g4 := uv_pos S
      omega
    subst eS eB
    clear hr hr2 hS hB c0 c1 c2 hb2 HS HK HB hs hA
    go_upto_region 3 with fail
    --@region 20 3 rb3.spec
    refine wp_region_runV [3, 7, 10, 11, 12, 14] (J0z w2.heap.size w2) (by kernel_rfl) (by kernel_rfl) (by kernel_rfl) (R := Rz w2.heap.size) Rz.below Rz.trans (J0z_stable _ _ (Nat.le_refl _)) (Below.refl _ _) ?_
    apply RunE.pure (by decide)
    · intro vs w hb hd; clear hd; simp only [List.take, putL, Act.put, List.setIfInBounds_toArray, List.set_cons_zero, List.set_cons_succ]; unfold StepOK; go_simp; exact ⟨Below.refl _ _, isV_mk _ _⟩
    apply RunE.pure (by decide)
    · intro vs w hb hd; have d0 : isV _ (vs 0) w := hd 0 (by decide) (by kernel_rfl); unfold isV at d0; clear hd; have hc0 := HC.out w hb 0 _ rfl; simp only [List.take, putL, Act.put, List.setIfInBounds_toArray, List.set_cons_zero, List.set_cons_succ]; unfold StepOK; go_simp; exact ⟨Below.refl _ _, isV_mk _ _⟩
    apply RunE.pure (by decide)
    · intro vs w hb hd; have d1 : isV _ (vs 1) w := hd 1 (by decide) (by kernel_rfl); unfold isV at d1; clear hd; simp only [List.take, putL, Act.put, List.setIfInBounds_toArray, List.set_cons_zero, List.set_cons_succ]; unfold StepOK; go_simp; exact ⟨Below.refl _ _, isV_mk _ _⟩
    refine RunE.eff (by decide) (Jz w2.heap.size w2 (uv S)) (Jz_stable _ _ _ (Nat.le_refl _)) ?_ ?_
    · intro vs w hb hd hj; have d2 : isV _ (vs 2) w := hd 2 (by decide) (by kernel_rfl); unfold isV at d2; clear hd; have hj2 := hj; (try simp only [prevE, lastV, List.mem_cons, List.not_mem_nil, or_false, Nat.reduceEqDiff, Nat.reduceAdd, if_true, if_false, reduceIte, or_true, true_or, or_self] at hj2); clear hj; have hN := hj2.size; simp only [List.take, putL, Act.put, List.setIfInBounds_toArray, List.set_cons_zero, List.set_cons_succ]; unfold StepE; go_simp; refine ⟨Rz.below _ _ (Below.refl _ _), (uint_at w2.heap.size none 0 0 [] S _ w (App.nil _ _ _ _) hN hSl (by omega) rfl).mono ?_⟩; rintro x w' ⟨A', n', c', rfl, hto⟩; have hbl := hto.below hN; exact ⟨_, rfl, Rz.bel hbl, hj2.trans hbl, A', n', c', rfl, by simpa using hto.app⟩
    apply RunE.pure (by decide)
    · intro vs w hb hd; clear hd; simp only [List.take, putL, Act.put, List.setIfInBounds_toArray, List.set_cons_zero, List.set_cons_succ]; unfold StepOK; go_simp; exact ⟨Below.refl _ _, isV_mk _ _⟩
    apply RunE.pure (by decide)
    · intro vs w hb hd; have d4 : isV _ (vs 4) w := hd 4 (by decide) (by kernel_rfl); unfold isV at d4; clear hd; have hc1 := HC.out w hb 1 _ rfl; simp only [List.take, putL, Act.put, List.setIfInBounds_toArray, List.set_cons_zero, List.set_cons_succ]; unfold StepOK; go_simp; exact ⟨Below.refl _ _, isV_mk _ _⟩
    apply RunE.pure (by decide)
    · intro vs w hb hd; have d5 : isV _ (vs 5) w := hd 5 (by decide) (by kernel_rfl); unfold isV at d5; clear hd; simp only [List.take, putL, Act.put, List.setIfInBounds_toArray, List.set_cons_zero, List.set_cons_succ]; unfold StepOK; go_simp; exact ⟨Below.refl _ _, isV_mk _ _⟩
    refine RunE.eff (by decide) (Jz w2.heap.size w2 (uv S ++ uv B)) (Jz_stable _ _ _ (Nat.le_refl _)) ?_ ?_
    · intro vs w hb hd hj; have d6 : isV _ (vs 6) w := hd 6 (by decide) (by kernel_rfl); unfold isV at d6; clear hd; have hj2 := hj; (try simp only [prevE, lastV, List.mem_cons, List.not_mem_nil, or_false, Nat.reduceEqDiff, Nat.reduceAdd, if_true, if_false, reduceIte, or_true, true_or, or_self] at hj2); clear hj; obtain ⟨hbw, A1, n1, c1, e1, happ⟩ := hj2; have hN := hbw.size; have hn1 : n1 ≤ 100 := by { have := happ.sl.blen; have := uv_len_ten S hSl; omega }; simp only [List.take, putL, Act.put, List.setIfInBounds_toArray, List.set_cons_zero, List.set_cons_succ]; unfold StepE; go_simp; refine ⟨Rz.below _ _ (Below.refl _ _), (uint_at w2.heap.size A1 n1 c1 (uv S) B _ w happ hN hBl (by omega) rfl).mono ?_⟩; rintro x w' ⟨A', n', c', rfl, hto⟩; have hbl := hto.below hN; exact ⟨_, rfl, Rz.bel hbl, hbw.trans hbl, A', n', c', rfl, hto.app⟩
    apply RunE.pure (by decide)
    · intro vs w hb hd; clear hd; simp only [List.take, putL, Act.put, List.setIfInBounds_toArray, List.set_cons_zero, List.set_cons_succ]; unfold StepOK; go_simp; exact ⟨Below.refl _ _, isV_mk _ _⟩
    apply RunE.pure (by decide)
    · intro vs w hb hd; have d8 : isV _ (vs 8) w := hd 8 (by decide) (by kernel_rfl); unfold isV at d8; clear hd; have hc2 := HC.out w hb 2 _ rfl; simp only [List.take, putL, Act.put, List.setIfInBounds_toArray, List.set_cons_zero, List.set_cons_succ]; unfold StepOK; go_simp; exact ⟨Below.refl _ _, isV_mk _ _⟩
    refine RunE.eff (by decide) (Jz w2.heap.size w2 (rootB S B x)) (Jz_stable _ _ _ (Nat.le_refl _)) ?_ ?_
    · intro vs w hb hd hj; have d9 : isV _ (vs 9) w := hd 9 (by decide) (by kernel_rfl); unfold isV at d9; clear hd; have hj2 := hj; (try simp only [prevE, lastV, List.mem_cons, List.not_mem_nil, or_false, Nat.reduceEqDiff, Nat.reduceAdd, if_true, if_false, reduceIte, or_true, true_or, or_self] at hj2); clear hj; obtain ⟨hbw, A1, n1, c1, e1, happ⟩ := hj2; have hN := hbw.size; have hn1 : n1 ≤ 200 := by { have := happ.sl.blen; rw [List.length_append] at this; have := uv_len_ten S hSl; have := uv_len_ten B hBl; omega }; simp only [List.take, putL, Act.put, List.setIfInBounds_toArray, List.set_cons_zero, List.set_cons_succ]; unfold StepE; go_simp; refine ⟨Rz.below _ _ (Below.refl _ _), (blobE_any w2.heap.size A1 A n1 c1 n c (uv S ++ uv B) x w happ hN (HA.out w hbw) (fun hne ad ha e => by have h1 := HAne.out hne ad ha; have h2 := rowOf_ge e.symm; omega) (by omega) (by omega)).mono ?_⟩; rintro x' w' ⟨A', n', c', rfl, hto⟩; have hbl := hto.below hN; exact ⟨_, rfl, Rz.bel hbl, hbw.trans hbl, A', n', c', rfl, by have := hto.app; rw [List.append_assoc] at this; exact this⟩
    refine RunE.effT (by decide) (Jt w2.heap.size w2 (frm (rootB S B x))) (Jt_stable _ _ _ (Nat.le_refl _)) (isT0) (isT0_st) (Jt.t0) ?_ ?_
    · intro vs w hb hd hj; clear hd; have hj2 := hj; (try simp only [prevE, lastV, List.mem_cons, List.not_mem_nil, or_false, Nat.reduceEqDiff, Nat.reduceAdd, if_true, if_false, reduceIte, or_true, true_or, or_self] at hj2); clear hj; obtain ⟨hbw, A1, n1, c1, e1, happ⟩ := hj2; have hN := hbw.size; have hn1 := HLN.out _ happ.sl.blen.symm; simp only [List.take, putL, Act.put, List.setIfInBounds_toArray, List.set_cons_zero, List.set_cons_succ]; unfold StepE; go_simp; refine ⟨Rz.below _ _ (Below.refl _ _), (put_own w2.heap.size none A1 0 0 n1 c1 [] (rootB S B x) w (World.ownsRow_nil _ _ _ _) hN happ.sl (fun ad _ => by simp [rowOf]) (by omega) hn1.1 hn1.2).mono ?_⟩; rintro x' w' ⟨A', n', c', rfl, hto⟩; have hbl := hto.below hN; exact ⟨_, rfl, Rz.bel hbl, hbw.trans hbl, A', n', c', rfl, by have h9 := hto.app; rw [List.nil_append] at h9; exact h9⟩
    refine RunE.eff (by decide) (Jo w2.heap.size w2 (frm (rootB S B x))) (Jo_stable _ _ _ (Nat.le_refl _)) ?_ ?_
    · intro vs w hb hd hj; have d11 := hd 11 (by decide) (by kernel_rfl); simp only [TR, Nat.reduceAdd, Nat.reduceSub, List.getD_cons_zero, List.getD_cons_succ] at d11; clear hd; have hj2 := hj; (try simp only [prevE, lastV, List.mem_cons, List.not_mem_nil, or_false, Nat.reduceEqDiff, Nat.reduceAdd, if_true, if_false, reduceIte, or_true, true_or, or_self] at hj2); clear hj; obtain ⟨hbw, A1, n1, c1, e1, happ⟩ := hj2; simp only [List.take, putL, Act.put, List.setIfInBounds_toArray, List.set_cons_zero, List.set_cons_succ]; unfold StepE; go_simp; exact ⟨Rz.below _ _ (Below.refl _ _), hbw, A1, n1, c1, rfl, happ⟩
    apply RunE.pure (by decide)
    · intro vs w hb hd; have d11 := hd 11 (by decide) (by kernel_rfl); simp only [TR, Nat.reduceAdd, Nat.reduceSub, List.getD_cons_zero, List.getD_cons_succ] at d11; clear hd; obtain ⟨A1, n1, c1, e11⟩ := d11; simp only [List.take, putL, Act.put, List.setIfInBounds_toArray, List.set_cons_zero, List.set_cons_succ]; unfold StepOK; go_simp; exact ⟨Below.refl _ _, isV_mk _ _⟩
    refine RunE.eff (by decide) (Jo w2.heap.size w2 (frm (rootB S B x))) (Jo_stable _ _ _ (Nat.le_refl _)) ?_ ?_
    · intro vs w hb hd hj; have d0 : isV _ (vs 0) w := hd 0 (by decide) (by kernel_rfl); unfold isV at d0; have d1 : isV _ (vs 1) w := hd 1 (by decide) (by kernel_rfl); unfold isV at d1; have d2 : isV _ (vs 2) w := hd 2 (by decide) (by kernel_rfl); unfold isV at d2; have d4 : isV _ (vs 4) w := hd 4 (by decide) (by kernel_rfl); unfold isV at d4; have d5 : isV _ (vs 5) w := hd 5 (by decide) (by kernel_rfl); unfold isV at d5; have d6 : isV _ (vs 6) w := hd 6 (by decide) (by kernel_rfl); unfold isV at d6; have d8 : isV _ (vs 8) w := hd 8 (by decide) (by kernel_rfl); unfold isV at d8; have d9 : isV _ (vs 9) w := hd 9 (by decide) (by kernel_rfl); unfold isV at d9; have d11 := hd 11 (by decide) (by kernel_rfl); simp only [TR, Nat.reduceAdd, Nat.reduceSub, List.getD_cons_zero, List.getD_cons_succ] at d11; have d13 : isV _ (vs 13) w := hd 13 (by decide) (by kernel_rfl); unfold isV at d13; clear hd; have hj2 := hj; (try simp only [prevE, lastV, List.mem_cons, List.not_mem_nil, or_false, Nat.reduceEqDiff, Nat.reduceAdd, if_true, if_false, reduceIte, or_true, true_or, or_self] at hj2); clear hj; obtain ⟨hbw, A1, n1, c1, e1, happ⟩ := hj2; simp only [List.take, putL, Act.put, List.setIfInBounds_toArray, List.set_cons_zero, List.set_cons_succ]; unfold StepE; go_simp; exact ⟨Rz.below _ _ (Below.refl _ _), hbw, A1, n1, c1, rfl, happ⟩
    apply RunE.pure (by decide)
    · intro vs w hb hd; have d0 : isV _ (vs 0) w := hd 0 (by decide) (by kernel_rfl); unfold isV at d0; have d1 : isV _ (vs 1) w := hd 1 (by decide) (by kernel_rfl); unfold isV at d1; have d2 : isV _ (vs 2) w := hd 2 (by decide) (by kernel_rfl); unfold isV at d2; have d4 : isV _ (vs 4) w := hd 4 (by decide) (by kernel_rfl); unfold isV at d4; have d5 : isV _ (vs 5) w := hd 5 (by decide) (by kernel_rfl); unfold isV at d5; have d6 : isV _ (vs 6) w := hd 6 (by decide) (by kernel_rfl); unfold isV at d6; have d8 : isV _ (vs 8) w := hd 8 (by decide) (by kernel_rfl); unfold isV at d8; have d9 : isV _ (vs 9) w := hd 9 (by decide) (by kernel_rfl); unfold isV at d9; have d11 := hd 11 (by decide) (by kernel_rfl); simp only [TR, Nat.reduceAdd, Nat.reduceSub, List.getD_cons_zero, List.getD_cons_succ] at d11; have d13 : isV _ (vs 13) w := hd 13 (by decide) (by kernel_rfl); unfold isV at d13; clear hd; simp only [List.take, putL, Act.put, List.setIfInBounds_toArray, List.set_cons_zero, List.set_cons_succ]; unfold StepOK; go_simp; exact ⟨Below.refl _ _, isV_mk _ _⟩
    intro vs w1 hb hd hj
    try simp only [prevE, lastV, List.mem_cons, List.not_mem_nil, or_false, Nat.reduceEqDiff, Nat.reduceAdd, if_true, if_false, reduceIte, or_true, true_or, or_self] at hj
    have e0 : isV _ (vs 0) w1 := hd 0 (by decide)
    have e1 : isV _ (vs 1) w1 := hd 1 (by decide)
    have e2 : isV _ (vs 2) w1 := hd 2 (by decide)
    have e4 : isV _ (vs 4) w1 := hd 4 (by decide)
    have e5 : isV _ (vs 5) w1 := hd 5 (by decide)
    have e6 : isV _ (vs 6) w1 := hd 6 (by decide)
    have e8 : isV _ (vs 8) w1 := hd 8 (by decide)
    have e9 : isV _ (vs 9) w1 := hd 9 (by decide)
    have e13 : isV _ (vs 13) w1 := hd 13 (by decide)
    have e15 : isV _ (vs 15) w1 := hd 15 (by decide)
    clear hd
    unfold isV at e0 e1 e2 e4 e5 e6 e8 e9 e13 e15
    simp only [putL, Act.put, List.setIfInBounds_toArray, List.set_cons_zero, List.set_cons_succ, e0, e1, e2, e4, e5, e6, e8, e9, e13, e15]
    clear e0 e1 e2 e4 e5 e6 e8 e9 e13 e15
    --@end
    obtain ⟨hbw, A1, n1, c1, e14, happ⟩ := hj
    simp only [e14]
    clear e14 HC HA HAne HLN hwS hwB
    have HF := Lib.hid (happ.sl.blen)
    have HW := Lib.hid (HB2.out.trans (hbw.mono HB2.out.size))
    have HP := Lib.hid happ
    clear happ hbw
    go_wp2_with fail
    go_ret2
    rw [HR.out]
    refine ⟨A1, c1, ?_, ?_, HW.out⟩
    · rw [HF.out]; rfl
    · have h1 := HP.out
      have h2 := HF.out
      rw [← h2] at h1
      exact Own.lower h1 HB2.out.size
  · have HR := Lib.hid (show bytesR s b x = ([], 2) by unfold bytesR; rw [hn, if_neg hr])
    have hr' : rightR s b n = false := by simpa using hr
    rw [hr']
    clear hr hr'
    go_wp2_with fail
    go_ret2
    rw [HR.out]
    exact ⟨none, 0, rfl, World.ownsRow_nil _ _ _ _, HB2.out⟩
end Go.Proofs.YtemegkapmgcffaaGreat

/- Roots: Parse. -/
namespace Go.Proofs.YtemegkapmgcffaaGreat
open Go.RowKit
set_option linter.unusedSimpArgs false
set_option linter.unusedVariables false

theorem results_cell1R {fn : Func} {t u : Tmp} {ty : TypeId} (h : fn.results = #[.cell t ty, .tmp u]) (tmps : Array Value) (P : Program) (w : World) (a : Addr) (ht : tmps.getD t undef = .pointer (some a)) (x : Value) (hl : (loadVar ty a).run P w = .ok x w) :
    (results fn tmps).run P w = .ok (.tuple #[x, tmps.getD u undef]) w := by
  simp only [Array.getD_eq_getD_getElem?] at ht
  simp [results, h, ht, asAddr, Sem.run_bind, hl]
theorem load_ownR {base r : Nat} {w : World} {cs : List Value} (h : Own base 36 1 w (some ⟨r, 0, none⟩) 3 3 cs) : (loadVar 36 ⟨r, 0, none⟩).run Tryz.prog w = .ok (.agg cs.toArray) w := by
  have hl : cs.length = 3 := by simpa using h.1
  exact run_loadVar_mid w r 0 36 cs _ (fun j v hj => by
    have hlt : j < 3 := by have := (List.getElem?_eq_some_iff.1 hj).1; omega
    have := World.ownsRow.cellAt h j (by omega)
    rw [Nat.zero_add, this, hj]) Tryz.underlying36 rfl (by rw [hl]; kernel_rfl)
theorem stored3R {base r : Nat} {t : TypeId} {w : World} {cs : List Value} (h : Own base t 1 w (some ⟨r, 0, none⟩) 3 3 cs) (v0 v1 v2 : Value) :
    Own base t 1 (((w.setCell ⟨r, 0, none⟩ v0).setCell ⟨r, 1, none⟩ v1).setCell ⟨r, 2, none⟩ v2) (some ⟨r, 0, none⟩) 3 3 [v0, v1, v2] ∧
    w.grownBy (((w.setCell ⟨r, 0, none⟩ v0).setCell ⟨r, 1, none⟩ v1).setCell ⟨r, 2, none⟩ v2) (some r) := by
  have hl : cs.length = 3 := by simpa using h.1
  obtain ⟨a, b, d, rfl⟩ : ∃ a b d, cs = [a, b, d] := by
    match cs, hl with
    | [a, b, d], _ => exact ⟨a, b, d, rfl⟩
  have s1 := World.ownsRow.stored h 0 v0
  have s2 := World.ownsRow.stored s1.1 1 v1
  have s3 := World.ownsRow.stored s2.1 2 v2
  exact ⟨s3.1, s1.2.trans (s2.2.trans s3.2)⟩
theorem own_ltR {base size n c : Nat} {e : TypeId} {w : World} {A : Option Addr} {cs : List Value} (h : Own base e size w A n c cs) : ∀ a, A = some a → base ≤ a.block ∧ a.block < w.heap.size := by
  rintro a ha
  rcases h.2 with ⟨hv, hn⟩ | ⟨g, cap, cur, hv, h1, h2, _⟩
  · simp only [Value.slice.injEq] at hv
    rw [hv.1] at ha
    cases ha
  · simp only [Value.slice.injEq] at hv
    rw [hv.1] at ha
    cases ha
    exact ⟨h1, (Array.getElem?_eq_some_iff.1 h2).1⟩
theorem own_sameR {w w' : World} {base n c : Nat} {e : TypeId} {size : Nat} {A : Option Addr} {cs : List Value} (ho : Own base e size w A n c cs) (hk : ∀ a, A = some a → w'.heap[a.block]? = w.heap[a.block]?) : Own base e size w' A n c cs := by
  refine ⟨ho.1, ?_⟩
  rcases ho.2 with h0 | ⟨g, cap, cur, h0, h1, h2, h3⟩
  · exact .inl h0
  · refine .inr ⟨g, cap, cur, h0, h1, ?_, h3⟩
    simp only [Value.slice.injEq] at h0
    exact (hk _ h0.1).trans h2
theorem own_keptR {w w' : World} {base n c r : Nat} {e : TypeId} {size : Nat} {A : Option Addr} {cs : List Value} (ho : Own base e size w A n c cs) (hg : w.grownBy w' (some r)) (hne : ∀ a, A = some a → a.block ≠ r) : Own base e size w' A n c cs :=
  own_sameR ho (fun a ha => hg.block _ (own_ltR ho a ha).2 (fun h => hne a ha (Option.some.inj h)))
def rtV (s b : Int) (A : Option Addr) (n c : Nat) : Value := .agg #[.int .i64 s, .int .i64 b, .slice A n c]
def parseF (l : List UInt8) : Rt × Int :=
  if ((fg l 0).2.2 = 0 ∧ (fg l 0).2.1 = l.length) ∧ ((gu (fg l 0).1 0).2.2 = 0 ∧ (gu (fg l 0).1 0).1 ≤ 1099511627776) ∧
    ((gu (fg l 0).1 (gu (fg l 0).1 0).2.1).2.2 = 0 ∧ (gu (fg l 0).1 (gu (fg l 0).1 0).2.1).1 ≤ 576460752303423488) ∧
    ((gb (fg l 0).1 (gu (fg l 0).1 (gu (fg l 0).1 0).2.1).2.1 524288).2.2 = 0 ∧ (gb (fg l 0).1 (gu (fg l 0).1 (gu (fg l 0).1 0).2.1).2.1 524288).2.1 = (fg l 0).1.length ∧
      rightR (gu (fg l 0).1 0).1 (gu (fg l 0).1 (gu (fg l 0).1 0).2.1).1 (gb (fg l 0).1 (gu (fg l 0).1 (gu (fg l 0).1 0).2.1).2.1 524288).1.length = true)
  then (⟨(gu (fg l 0).1 0).1, (gu (fg l 0).1 (gu (fg l 0).1 0).2.1).1, (gb (fg l 0).1 (gu (fg l 0).1 (gu (fg l 0).1 0).2.1).2.1 524288).1⟩, 0)
  else (⟨0, 0, []⟩, 10)
def ParseP (w : World) (r : Rt × Int) (x : Ending) (w' : World) : Prop :=
  ∃ A c, x = .returned (.tuple #[rtV r.1.s r.1.b A r.1.x.length c, .int .i64 r.2]) ∧ Own w.heap.size 5 1 w' A r.1.x.length c (bytesV r.1.x) ∧ Below w.heap.size w w'
/-- the end of a way that tells none -/
theorem ParseP.none {w w1 w2 : World} {base : Nat} (hb : Below w.heap.size w w1) (hg : w1.grownBy w2 (some w.heap.size)) : ParseP w (⟨0, 0, []⟩, 10) (.returned (.tuple #[.agg #[.int .i64 0, .int .i64 0, .slice Option.none 0 0], .int .i64 10])) w2 :=
  ⟨Option.none, 0, rfl, World.ownsRow_nil _ _ _ _, hb.grown hg hb.size (fun k hk => by cases hk; exact Nat.le_refl _)⟩
set_option maxRecDepth 100000 in
set_option maxHeartbeats 8000000 in
theorem Parse_any (A : Option Addr) (n c : Nat) (l : List UInt8) (w : World) (hs : Sl w 1 A n c (bytesV l)) (hl : n ≤ 35184372088832) :
    Calls Tryz.prog 57 #[.slice A n c] w (ParseP w (parseF l)) := by
  have hlen := hs.blen
  obtain ⟨B, N, E, hG⟩ : ∃ B N E, fg l 0 = (B, N, E) := ⟨_, _, _, rfl⟩
  obtain ⟨i, iN, iE, hI⟩ : ∃ i iN iE, gu B 0 = (i, iN, iE) := ⟨_, _, _, rfl⟩
  obtain ⟨j, jN, jE, hJ⟩ : ∃ j jN jE, gu B iN = (j, jN, jE) := ⟨_, _, _, rfl⟩
  obtain ⟨k, kN, kE, hK⟩ : ∃ k kN kE, gb B jN 524288 = (k, kN, kE) := ⟨_, _, _, rfl⟩
  have HP := Lib.hid (show parseF l = if (E = 0 ∧ N = l.length) ∧ (iE = 0 ∧ i ≤ 1099511627776) ∧ (jE = 0 ∧ j ≤ 576460752303423488) ∧ (kE = 0 ∧ kN = B.length ∧ rightR i j k.length = true) then (⟨i, j, k⟩, 0) else (⟨0, 0, []⟩, 10) by
    unfold parseF
    simp only [hG, hI, hJ, hK])
  have hown := new_own w [.int .i64 0, .int .i64 0, .slice none 0 0] 36 3 rfl (by unfold maxLen; omega)
  have hb1 := below_alloc1 w (.cells #[.int .i64 0, .int .i64 0, .slice none 0 0] 36)
  obtain ⟨W1, hW1⟩ : ∃ W1, W1 = w.alloc (.cells #[.int .i64 0, .int .i64 0, .slice none 0 0] 36) := ⟨_, rfl⟩
  have hT : (w.alloc (.cells [Value.int .i64 0, .int .i64 0, .slice none 0 0].toArray 36)) = W1 := hW1.symm
  rw [hT] at hown
  rw [← hW1] at hb1
  have HW1 := Lib.hid hW1
  have hs1 := hs.below hb1
  have hget := get_any A n c l 0 W1 hs1 hl
  rw [hG] at hget
  have HG := Lib.hid hget
  have HO := Lib.hid hown
  have HB1 := Lib.hid hb1
  have HI := Lib.hid hI
  have HJ := Lib.hid hJ
  have HK := Lib.hid hK
  have HBl := Lib.hid (show E = 0 → B.length ≤ 1048576 from fun h => by
    subst h
    exact (fg_back hG).2.1)
  clear hget hown hb1 hs hs1 hI hJ hK hG hW1 hT
  go_enter Tryz.func57, Tryz.ntmps57
  go_upto_region 1 with fail
  rw [← HW1.out]
  go_wp2_with fail
  refine HG.out.mono ?_; rintro e w2 ⟨v, rfl, ho2, hb2⟩
  obtain ⟨A2, c2, rfl, sl2, -⟩ := own_form ho2
  have ho := HO.out.below hb2
  have k0 := World.ownsRow.cellAt ho 0 (by omega)
  have k1 := World.ownsRow.cellAt ho 1 (by omega)
  have k2 := World.ownsRow.cellAt ho 2 (by omega)
  simp only [List.getElem?_cons_zero, List.getElem?_cons_succ] at k0 k1 k2
  have f0 := World.ownsRow.frozenAt ho 0
  have f1 := World.ownsRow.frozenAt ho 1
  have f2 := World.ownsRow.frozenAt ho 2
  have HB2 := Lib.hid (HB1.out.trans (hb2.mono HB1.out.size))
  have HO2 := Lib.hid ho
  have HS2 := Lib.hid sl2
  have Hst := Lib.hid (stored3R ho (.int .i64 0) (.int .i64 0) (.slice none 0 0))
  clear ho sl2 ho2 hb2 HG
  by_cases h1 : E = 0 ∧ N = l.length
  · obtain ⟨rfl, hN⟩ := h1
    obtain rfl : N = n := by omega
    have hBl := HBl.out rfl
    have HN := Lib.hid hN
    clear hN
    have hg1 := getUint_any A2 B.length c2 B 0 w2 HS2.out (by omega)
    rw [HI.out] at hg1
    have HG1 := Lib.hid hg1
    clear hg1
    go_wp2_with fail
    refine HG1.out.mono ?_; rintro e w3 ⟨rfl, rfl⟩
    by_cases h2 : iE = 0 ∧ i ≤ 1099511627776
    · obtain ⟨rfl, hi⟩ := h2
      have hi2 : ¬ (1099511627776 : Int) < (i : Int) := by omega
      have hg2 := getUint_any A2 B.length c2 B iN w2 HS2.out (by omega)
      rw [HJ.out] at hg2
      have HG2 := Lib.hid hg2
      clear hg2 HG1
      go_wp2_with fail
      refine HG2.out.mono ?_; rintro e w3 ⟨rfl, rfl⟩
      by_cases h3 : jE = 0 ∧ j ≤ 576460752303423488
      · obtain ⟨rfl, hj⟩ := h3
        have hj2 : ¬ (576460752303423488 : Int) < (j : Int) := by omega
        have hg3 := getBlob_any A2 B.length c2 B jN 524288 w2 HS2.out (by omega) (by omega) (by omega)
        rw [HK.out] at hg3
        have HG3 := Lib.hid hg3
        have hwi : IntKind.i64.wrap (i : Int) = (i : Int) := by rw [IntKind.wrap_i64]; omega
        have hwj : IntKind.i64.wrap (j : Int) = (j : Int) := by rw [IntKind.wrap_i64]; omega
        clear hg3 HG2
        go_wp2_with fail
        refine HG3.out.mono ?_; rintro e w4 ⟨A3, n3, c3, rfl, ho3, hb3⟩
        have hn3 : k.length = n3 := by have := ho3.1; simpa [bytesV] using this
        have hownb := new_own w4 [.int .i64 (i : Int), .int .i64 (j : Int), .slice A3 n3 c3] 36 3 rfl (by unfold maxLen; omega)
        have hb5 := below_alloc1 w4 (.cells [.int .i64 (i : Int), .int .i64 (j : Int), .slice A3 n3 c3].toArray 36)
        have HQ0 := Lib.hid hownb
        have HO3 := Lib.hid (show Own w2.heap.size 5 1 w4 A3 n3 c3 (bytesV k) from ho3)
        have HB3 := Lib.hid hb3
        have HB5 := Lib.hid hb5
        clear hownb ho3 hb3 hb5 HG3 k0 k1 k2 f0 f1 f2 Hst
        go_upto_region 12 with fail
        obtain ⟨W6, hW6⟩ : ∃ W6, W6 = w4.alloc (.cells #[.int .i64 (i : Int), .int .i64 (j : Int), .slice A3 n3 c3] 36) := ⟨_, rfl⟩
        have hT6 : (w4.alloc (.cells [Value.int .i64 (i : Int), .int .i64 (j : Int), .slice A3 n3 c3].toArray 36)) = W6 := hW6.symm
        rw [hT6] at HQ0 HB5
        rw [← hW6]
        have hz2 := HB2.out.size
        have hz1 : w.heap.size < w2.heap.size := by
          have := (own_ltR HO2.out _ rfl).2
          exact this
        have hz3 := HB3.out.size
        have hb46 : Below w4.heap.size w4 W6 := HB5.out
        have hb26 : Below w2.heap.size w2 W6 := HB3.out.trans (hb46.mono hz3)
        have HB6 := Lib.hid (HB2.out.trans (hb26.mono hz2))
        have ho6 := HO2.out.below hb26
        have HO6 := Lib.hid ho6
        have HA6 := Lib.hid (HO3.out.below HB5.out)
        have HL6 := Lib.hid (own_ltR HO3.out)
        have q0 := World.ownsRow.cellAt HQ0.out 0 (by omega)
        have q1 := World.ownsRow.cellAt HQ0.out 1 (by omega)
        have q2 := World.ownsRow.cellAt HQ0.out 2 (by omega)
        simp only [List.getElem?_cons_zero, List.getElem?_cons_succ] at q0 q1 q2
        have Hq := Lib.hid HQ0.out
        have k0 := World.ownsRow.cellAt ho6 0 (by omega)
        have k1 := World.ownsRow.cellAt ho6 1 (by omega)
        have k2 := World.ownsRow.cellAt ho6 2 (by omega)
        simp only [List.getElem?_cons_zero, List.getElem?_cons_succ] at k0 k1 k2
        have f0 := World.ownsRow.frozenAt ho6 0
        have f1 := World.ownsRow.frozenAt ho6 1
        have f2 := World.ownsRow.frozenAt ho6 2
        have Hst6 := Lib.hid (stored3R ho6 (.int .i64 0) (.int .i64 0) (.slice none 0 0))
        clear hW6 hT6 ho6 hb46 hb26 HB5
        by_cases hkE : kE = 0
        · by_cases hkN : kN = B.length
          · subst hkE
            have HKN := Lib.hid hkN
            clear k0 k1 k2 f0 f1 f2
            obtain ⟨bl, hbl⟩ : ∃ bl, bl = B.length := ⟨_, rfl⟩
            rw [← hbl] at hkN ⊢
            have HBL2 := Lib.hid hbl
            clear hbl hBl
            subst hkN
            go_wp2_with fail
            refine (right_any (i : Int) (j : Int) A3 n3 c3 W6).mono ?_; rintro e w7 ⟨rfl, hb7⟩
            have ho7 := HO6.out.below hb7
            have k0 := World.ownsRow.cellAt ho7 0 (by omega)
            have k1 := World.ownsRow.cellAt ho7 1 (by omega)
            have k2 := World.ownsRow.cellAt ho7 2 (by omega)
            simp only [List.getElem?_cons_zero, List.getElem?_cons_succ] at k0 k1 k2
            have f0 := World.ownsRow.frozenAt ho7 0
            have f1 := World.ownsRow.frozenAt ho7 1
            have f2 := World.ownsRow.frozenAt ho7 2
            have hq7 := HQ0.out.below hb7
            have q0 := World.ownsRow.cellAt hq7 0 (by omega)
            have q1 := World.ownsRow.cellAt hq7 1 (by omega)
            have q2 := World.ownsRow.cellAt hq7 2 (by omega)
            simp only [List.getElem?_cons_zero, List.getElem?_cons_succ] at q0 q1 q2
            have HB7 := Lib.hid (HB6.out.trans (hb7.mono HB6.out.size))
            have HA7 := Lib.hid (HA6.out.below hb7)
            cases hR : rightR (i : Int) (j : Int) n3 with
            | false =>
              have HP1 := Lib.hid (show parseF l = (⟨0, 0, []⟩, 10) by rw [HP.out, if_neg (fun h => by have h1 := h.2.2.2.2.2; rw [hn3, hR] at h1; cases h1)])
              have Hst7 := Lib.hid (stored3R ho7 (.int .i64 0) (.int .i64 0) (.slice none 0 0))
              clear hR ho7 hq7 hb7
              go_wp2_with fail
              refine bodyPost_ret (results_cell1R rfl _ _ _ ⟨w.heap.size, 0, none⟩ rfl _ (load_ownR Hst7.out.1)) rfl ?_
              rw [HP1.out]
              exact ParseP.none (base := 0) HB7.out Hst7.out.2
            | true =>
              have HP1 := Lib.hid (show parseF l = (⟨i, j, k⟩, 0) by rw [HP.out, if_pos (by refine ⟨⟨?_, HN.out⟩, ⟨?_, hi⟩, ⟨?_, hj⟩, ?_, HKN.out, by rw [hn3]; exact hR⟩ <;> first | rfl | trivial)])
              have Hst7 := Lib.hid (stored3R ho7 (.int .i64 (i : Int)) (.int .i64 (j : Int)) (.slice A3 n3 c3))
              have Hn3 := Lib.hid hn3
              clear hR ho7 hq7 hb7 hn3
              go_wp2_with fail
              refine bodyPost_ret (results_cell1R rfl _ _ _ ⟨w.heap.size, 0, none⟩ rfl _ (load_ownR Hst7.out.1)) rfl ?_
              rw [HP1.out]
              refine ⟨A3, c3, by simp only [Hn3.out]; rfl, ?_, HB7.out.grown Hst7.out.2 HB7.out.size (fun k hk => by cases hk; exact Nat.le_refl _)⟩
              have h1 := own_keptR HA7.out Hst7.out.2 (fun a ha e => by
                have h1 := (HL6.out a ha).1
                omega)
              simp only [Hn3.out]
              exact Own.lower h1 HB2.out.size
          · have HP1 := Lib.hid (show parseF l = (⟨0, 0, []⟩, 10) by rw [HP.out, if_neg (fun h => hkN h.2.2.2.2.1)])
            have hkN2 : ((kN : Int) == (B.length : Int)) = false := by simp only [beq_eq_false_iff_ne, ne_eq, Int.natCast_inj]; exact hkN
            subst hkE
            have hkN3 : ¬ ((kN : Int) = (B.length : Int)) := by omega
            clear hkN q0 q1 q2 hBl
            go_wp2_with fail
            refine bodyPost_ret (results_cell1R rfl _ _ _ ⟨w.heap.size, 0, none⟩ rfl _ (load_ownR Hst6.out.1)) rfl ?_
            rw [HP1.out]
            exact ParseP.none (base := 0) HB6.out Hst6.out.2
        · have HP1 := Lib.hid (show parseF l = (⟨0, 0, []⟩, 10) by rw [HP.out, if_neg (fun h => hkE h.2.2.2.1)])
          have hkE2 : ((kE : Int) == 0) = false := by simp only [beq_eq_false_iff_ne, ne_eq]; omega
          have hkE3 : ¬ ((kE : Int) = 0) := by omega
          clear hkE q0 q1 q2 hBl
          go_wp2_with fail
          refine bodyPost_ret (results_cell1R rfl _ _ _ ⟨w.heap.size, 0, none⟩ rfl _ (load_ownR Hst6.out.1)) rfl ?_
          rw [HP1.out]
          exact ParseP.none (base := 0) HB6.out Hst6.out.2
      · have HP1 := Lib.hid (show parseF l = (⟨0, 0, []⟩, 10) by rw [HP.out, if_neg (fun h => h3 h.2.2.1)])
        by_cases hE : jE = 0
        · have hj2 : (576460752303423488 : Int) < (j : Int) := by omega
          subst hE
          clear h3
          go_wp2_with fail
          refine bodyPost_ret (results_cell1R rfl _ _ _ ⟨w.heap.size, 0, none⟩ rfl _ (load_ownR Hst.out.1)) rfl ?_
          rw [HP1.out]
          exact ParseP.none (base := 0) HB2.out Hst.out.2
        · have hE2 : ((jE : Int) == 0) = false := by simp only [beq_eq_false_iff_ne, ne_eq]; omega
          clear h3
          go_wp2_with fail
          refine bodyPost_ret (results_cell1R rfl _ _ _ ⟨w.heap.size, 0, none⟩ rfl _ (load_ownR Hst.out.1)) rfl ?_
          rw [HP1.out]
          exact ParseP.none (base := 0) HB2.out Hst.out.2
    · have HP1 := Lib.hid (show parseF l = (⟨0, 0, []⟩, 10) by rw [HP.out, if_neg (fun h => h2 h.2.1)])
      by_cases hE : iE = 0
      · have hi2 : (1099511627776 : Int) < (i : Int) := by omega
        subst hE
        clear h2
        go_wp2_with fail
        refine bodyPost_ret (results_cell1R rfl _ _ _ ⟨w.heap.size, 0, none⟩ rfl _ (load_ownR Hst.out.1)) rfl ?_
        rw [HP1.out]
        exact ParseP.none (base := 0) HB2.out Hst.out.2
      · have hE2 : ((iE : Int) == 0) = false := by simp only [beq_eq_false_iff_ne, ne_eq]; omega
        clear h2
        go_wp2_with fail
        refine bodyPost_ret (results_cell1R rfl _ _ _ ⟨w.heap.size, 0, none⟩ rfl _ (load_ownR Hst.out.1)) rfl ?_
        rw [HP1.out]
        exact ParseP.none (base := 0) HB2.out Hst.out.2
  · have HP1 := Lib.hid (show parseF l = (⟨0, 0, []⟩, 10) by rw [HP.out, if_neg (fun h => h1 h.1)])
    by_cases hE : E = 0
    · have hN : ((N : Int) == (n : Int)) = false := by
        rw [← hlen]
        simp only [beq_eq_false_iff_ne, ne_eq, Int.natCast_inj]
        exact fun h => h1 ⟨hE, h⟩
      subst hE
      clear h1
      go_wp2_with fail
      refine bodyPost_ret (results_cell1R rfl _ _ _ ⟨w.heap.size, 0, none⟩ rfl _ (load_ownR Hst.out.1)) rfl ?_
      rw [HP1.out]
      exact ParseP.none (base := 0) HB2.out Hst.out.2
    · have hE2 : ((E : Int) == 0) = false := by simp only [beq_eq_false_iff_ne, ne_eq]; omega
      clear h1
      go_wp2_with fail
      refine bodyPost_ret (results_cell1R rfl _ _ _ ⟨w.heap.size, 0, none⟩ rfl _ (load_ownR Hst.out.1)) rfl ?_
      rw [HP1.out]
      exact ParseP.none (base := 0) HB2.out Hst.out.2
end Go.Proofs.YtemegkapmgcffaaGreat

/- Roots: name. -/
namespace Go.Proofs.YtemegkapmgcffaaGreat
open Go.RowKit
set_option linter.unusedSimpArgs false
set_option linter.unusedVariables false

def rn0 : Nm := [114, 111, 111, 116, 48]
def rn1 : Nm := [114, 111, 111, 116, 49]
def rnw : Nm := [114, 111, 111, 116, 46, 110, 101, 119]
def rnm (i : Nat) : Nm := if i % 2 = 0 then rn0 else rn1
set_option maxRecDepth 100000 in
theorem name_any (i : Nat) (hi : i ≤ 1099511627776) (w : World) : Calls Tryz.prog 28 #[.int .i64 (i : Int)] w fun e w' => e = .returned (.string (bstr (rnm i))) ∧ w = w' := by
  have h0 : ∀ (a b : Value) (W : World), (Instr.index 109 (.agg #[a, b]) (.int .i64 0)).run Tryz.prog W = .ok a W := fun a b W => by kernel_rfl
  have h1 : ∀ (a b : Value) (W : World), (Instr.index 109 (.agg #[a, b]) (.int .i64 1)).run Tryz.prog W = .ok b W := fun a b W => by kernel_rfl
  by_cases h : i % 2 = 0
  · have e1 : (i : Int).tmod 2 = 0 := by rw [Int.tmod_eq_emod_of_nonneg (by omega)]; omega
    have e2 : (i : Int) % 2 = 0 := by omega
    have HN := Lib.hid (show rnm i = rn0 by unfold rnm; rw [if_pos h])
    clear h
    go_enter Tryz.func28, Tryz.ntmps28
    go_wp2_with fail
    go_ret
    exact ⟨by rw [HN.out]; rfl, rfl⟩
  · have e1 : (i : Int).tmod 2 = 1 := by rw [Int.tmod_eq_emod_of_nonneg (by omega)]; omega
    have e2 : (i : Int) % 2 = 1 := by omega
    have HN := Lib.hid (show rnm i = rn1 by unfold rnm; rw [if_neg h])
    clear h
    go_enter Tryz.func28, Tryz.ntmps28
    go_wp2_with fail
    go_ret
    exact ⟨by rw [HN.out]; rfl, rfl⟩
end Go.Proofs.YtemegkapmgcffaaGreat
