import Derived.Test.YtphjmbhlokkdiaaFairG
namespace Go.Proofs.Ytphjmbhlokkdiaa
open Go.RowKit Go.Maps Go.WideShapes Go.WideMaps
set_option linter.unusedSimpArgs false
set_option linter.unusedVariables false

theorem Out.below {base g c : Nat} {w w' : World} {A : Option Addr} {f : Fr} (h : Out base g w A c f) (hb : Below w.heap.size w w') : Out base g w' A c f := ⟨h.fr.below hb, h.qs.below hb, h.ne⟩

def JevF (base r : Nat) (cs : List Value) (w : World) : Prop := Own base 36 1 w (some ⟨r, 0, none⟩) 4 4 cs
theorem JevF_stable (base r : Nat) (cs : List Value) : Stable (fun _ w => JevF base r cs w) := fun _ _ _ hb h => Own.below h hb
theorem Own.bytes_past : True := trivial
set_option maxRecDepth 100000 in
set_option maxHeartbeats 8000000 in
theorem pick_any (f fr : Fr) (hs : List Hd) (fuel k : Nat) (q : Tn) (A A2 : Option Addr) (d m2 d2 : Nat) (w : World) (hT : Sl w 3 A f.ts.length d (flatT f.ts)) (hH : Sl w 2 A2 m2 d2 (flatH hs)) (hm2 : m2 ≤ 1000000) (hg : Gd f) (hok : MayOK f.ts hs) (hne : hs ≠ [])
    (hfu : pickN fuel f hs = some fr) (hk : fr.At = (k : Int)) (hq : fr.ts[k]? = some q) :
    Calls Try.prog 22 #[frV f.Q A f.ts.length d f.At f.H, .slice A2 m2 d2] w fun e w' => ∃ A' c', e = .returned (.tuple #[frV fr.Q A' fr.ts.length c' fr.At fr.H, .string (bstr q.N), .int .i64 0]) ∧ Sl w' 3 A' fr.ts.length c' (flatT fr.ts) ∧ Below w.heap.size w w' ∧ (∀ a, A' = some a → w.heap.size ≤ a.block) := by
  obtain ⟨m, hm⟩ : ∃ m, m = f.ts.length := ⟨_, rfl⟩
  rw [← hm] at hT ⊢
  have hl := slH_len hH
  have hlen : m ≤ 20 := by rw [hm]; exact hg.len
  have Hm := Lib.hid hm
  clear hm
  have hq1 := hg.q1
  have hq2 := hg.q2
  -- the three new things
  obtain ⟨w1, hw1⟩ : ∃ w1, w1 = w.alloc (.cells (frC f.Q A m d f.At f.H).toArray 36) := ⟨_, rfl⟩
  have b1 := below_alloc1 w (.cells (frC f.Q A m d f.At f.H).toArray 36)
  have o1 : Own w.heap.size 36 1 (w.alloc (.cells (frC f.Q A m d f.At f.H).toArray 36)) (some ⟨w.heap.size, 0, none⟩) 4 4 (frC f.Q A m d f.At f.H) := new_own w (frC f.Q A m d f.At f.H) 36 4 rfl (by unfold maxLen; omega)
  have n1 : (w.alloc (.cells (frC f.Q A m d f.At f.H).toArray 36)).heap.size = w.heap.size + 1 := by simp
  rw [← hw1] at b1 o1 n1
  obtain ⟨w2, hw2⟩ : ∃ w2, w2 = w1.alloc (.cells #[.slice A2 m2 d2] 43) := ⟨_, rfl⟩
  have b2 := below_alloc1 w1 (.cells #[.slice A2 m2 d2] 43)
  have o2 : Own w1.heap.size 43 1 (w1.alloc (.cells #[.slice A2 m2 d2] 43)) (some ⟨w1.heap.size, 0, none⟩) 1 1 [.slice A2 m2 d2] := new_own w1 [.slice A2 m2 d2] 43 1 rfl (by unfold maxLen; omega)
  have n2 : (w1.alloc (.cells #[.slice A2 m2 d2] 43)).heap.size = w1.heap.size + 1 := by simp
  rw [← hw2] at b2 o2 n2
  obtain ⟨w3, hw3⟩ : ∃ w3, w3 = w2.alloc (.cells frZ.toArray 36) := ⟨_, rfl⟩
  have b3 := below_alloc1 w2 (.cells frZ.toArray 36)
  have o3 : Own w2.heap.size 36 1 (w2.alloc (.cells frZ.toArray 36)) (some ⟨w2.heap.size, 0, none⟩) 4 4 frZ := new_own w2 frZ 36 4 rfl (by unfold maxLen; omega)
  have n3 : (w2.alloc (.cells frZ.toArray 36)).heap.size = w2.heap.size + 1 := by simp
  rw [← hw3] at b3 o3 n3
  have o1 := (o1.below b2).below b3
  have o2 := (o2.below b3).lower (base' := w.heap.size) (by omega)
  have o3 := o3.lower (base' := w.heap.size) (by omega)
  have bA := b1.trans ((b2.trans (b3.mono (by omega))).mono (by omega))
  have n3 : w3.heap.size = w.heap.size + 3 := by omega
  rw [n2, n1] at o3
  rw [n1] at o2
  subst hw3
  subst hw2
  subst hw1
  clear b1 b2 b3 n1 n2
  simp only [frC, frZ] at bA n3 o1 o2 o3
  have hT3 := hT.below bA
  unfold frV
  go_enter Try.func22, Try.ntmps22
  go_upto_region 1 with fail
  generalize ((w.alloc (.cells #[.int .i64 f.Q, .slice A m d, .int .i64 f.At, .bool f.H] 36)).alloc (.cells #[.slice A2 m2 d2] 43)).alloc (.cells #[.int .i64 0, .slice none 0 0, .int .i64 0, .bool false] 36) = w3 at *
  have y0 := World.ownsRow.cellAt o1 0 (by omega)
  have y1 := World.ownsRow.cellAt o1 1 (by omega)
  have y2 := World.ownsRow.cellAt o1 2 (by omega)
  have y3 := World.ownsRow.cellAt o1 3 (by omega)
  simp only [frC, List.getElem?_cons_succ, List.getElem?_cons_zero] at y0 y1 y2 y3
  go_wp2_with fail
  refine (own_any f.Q A m d f.At f.H f.ts _ hT3 (by omega)).mono ?_; rintro x w4 ⟨A', c', rfl, oQ, b4⟩
  have bB := bA.trans (b4.mono (by omega))
  have n4 := b4.size
  have o1 := o1.below b4
  have o2 := o2.below b4
  have o3 := o3.below b4
  have oQ := oQ.lower (base' := w.heap.size + 3) (by omega)
  clear y0 y1 y2 y3 hT3 bA b4
  have b5 := below_alloc1 w4 (.cells (frC f.Q A' m c' f.At f.H).toArray 36)
  have oG : Own w4.heap.size 36 1 (w4.alloc (.cells (frC f.Q A' m c' f.At f.H).toArray 36)) (some ⟨w4.heap.size, 0, none⟩) 4 4 (frC f.Q A' m c' f.At f.H) := new_own w4 (frC f.Q A' m c' f.At f.H) 36 4 rfl (by unfold maxLen; omega)
  have oG := oG.lower (base' := w.heap.size + 3) (by omega)
  have hneA : ∀ a, A' = some a → a.block ≠ w4.heap.size := fun a ha => by
    subst ha
    have := (World.ownsRow.lt oQ a.block rfl).2
    omega
  have oQ := oQ.below b5
  have o1 := o1.below b5
  have o2 := o2.below b5
  have o3 := o3.below b5
  have bC := bB.trans (b5.mono (by omega))
  have n5 := b5.size
  simp only [frC] at oG b5 oQ o1 o2 o3 bC n5
  clear bB b5
  unfold frV
  go_upto_region 2 with fail
  generalize w4.alloc (.cells #[.int .i64 f.Q, .slice A' m c', .int .i64 f.At, .bool f.H] 36) = w5 at *
  have y0 := World.ownsRow.cellAt o1 0 (by omega)
  have y1 := World.ownsRow.cellAt o1 1 (by omega)
  have y2 := World.ownsRow.cellAt o1 2 (by omega)
  have y3 := World.ownsRow.cellAt o1 3 (by omega)
  simp only [List.getElem?_cons_succ, List.getElem?_cons_zero] at y0 y1 y2 y3
  go_wp2_with fail
  refine (fright_any f A m d _ (hT.below bC) (by omega) (by omega)).mono ?_; rintro x w6 ⟨rfl, b6⟩
  rw [hg.right]
  have hgx : w.heap.size + 3 ≤ w4.heap.size := by omega
  have oG := oG.below b6
  have oQ := oQ.below b6
  have o1 := o1.below b6
  have o2 := o2.below b6
  have o3 := o3.below b6
  have bD := bC.trans (b6.mono (by omega))
  have n6 : w.heap.size + 3 ≤ w6.heap.size := by have := b6.size; omega
  clear y0 y1 y2 y3 bC b6 n3 n4 n5
  have y0 := World.ownsRow.cellAt o1 0 (by omega)
  have y1 := World.ownsRow.cellAt o1 1 (by omega)
  have y2 := World.ownsRow.cellAt o1 2 (by omega)
  have y3 := World.ownsRow.cellAt o1 3 (by omega)
  simp only [List.getElem?_cons_succ, List.getElem?_cons_zero] at y0 y1 y2 y3
  have z0 := World.ownsRow.cellAt o2 0 (by omega)
  simp only [List.getElem?_cons_succ, List.getElem?_cons_zero] at z0
  go_wp2_with fail
  refine (may_any f.Q A A2 m d m2 d2 f.At f.H f.ts hs _ (hT.below bD) (hH.below bD) (by omega) hm2 hok).mono ?_; rintro x w7 ⟨rfl, b7⟩
  have oG := oG.below b7
  have oQ := oQ.below b7
  have o2 := o2.below b7
  have o3 := o3.below b7
  have bE := bD.trans (b7.mono (by omega))
  have n7 : w.heap.size + 3 ≤ w7.heap.size := by have := b7.size; omega
  clear y0 y1 y2 y3 z0 bD b7 n6 o1
  have z0 := World.ownsRow.cellAt o2 0 (by omega)
  simp only [List.getElem?_cons_succ, List.getElem?_cons_zero] at z0
  have hm0 : m2 ≠ 0 := by rw [← hl]; intro h; exact hne (List.eq_nil_of_length_eq_zero h)
  have hm0i : ¬ (m2 : Int) = 0 := by omega
  have hmf : ∀ (fn : Fn) (first cap : Array Value) (w : World), (Instr.makeFunc fn first cap).run Try.prog w = .ok (.func fn first cap) w := fun _ _ _ _ => rfl
  go_upto_block 1 with fail
  have hd4 : ((m2 : Int) == 0) = false := by simp; omega
  try simp only [hd4]
  clear hd4
  obtain ⟨P, hP⟩ : ∃ P : Nat → World → Prop, P = fun n wx => ∃ f1 : Fr, Out (w.heap.size + 3) w4.heap.size wx A' c' f1 ∧ Gd f1 ∧ f1.ts.length = m ∧ pickN n f1 hs = some fr ∧ Below (w.heap.size + 3) w7 wx := ⟨_, rfl⟩
  have hm' := Hm.out
  have hP0 : P fuel w7 := by
    rw [hP]
    exact ⟨f, ⟨by rw [← hm']; exact oG, by rw [← hm']; exact oQ, hneA⟩, hg, hm'.symm, hfu, Below.refl _ _⟩
  have HP := Lib.hid hP
  have hCb : ∀ t, t ∈ hs → -1000000 ≤ t.C ∧ t.C ≤ 1000000 := fun t ht => by have := hok.each t ht; omega
  have hCb2 : ∀ x, x ∈ hs → 1 ≤ x.C ∧ x.C ≤ 1000 := fun t ht => by have := hok.each t ht; omega
  have HCb := Lib.hid hCb
  have HCb2 := Lib.hid hCb2
  have HP0 := Lib.hid hP0
  clear hP hP0 hm' hCb hCb2 z0 oG oQ hfu
  go_wp2_with fail
  go_loopw [38] (fun _ wx => Hid (∃ n, P n wx)) (fun _ wx => leastN (fun n => P n wx))
  case atStart => exact Lib.hid ⟨fuel, HP0.out⟩
  case round =>
    have hls := (least_spec hrel.out).1
    obtain ⟨n0, hn0⟩ : ∃ n0, n0 = leastN (fun n => P n wr) := ⟨_, rfl⟩
    rw [← hn0] at hls
    rw [HP.out] at hls
    obtain ⟨f1, hout, hg1, hlen1, hpk, hbx⟩ := hls
    cases n0 with
    | zero => simp [pickN] at hpk
    | succ n1 =>
      obtain ⟨k1, hk1, hkl1⟩ := hg1.at_
      obtain ⟨q1, hq1'⟩ := get_some f1.ts k1 hkl1
      rw [pickN, hk1, Int.toNat_natCast, hq1'] at hpk
      simp only at hpk
      have hbw := bE.trans (hbx.mono (by omega))
      obtain ⟨a1, a2, a3, a4, a5⟩ := okT_iff.1 (hg1.ok k1 q1 hq1')
      have hcb := costOf_bound HCb2.out q1.N
      have hbel : q1.L ≤ 1000000 := by
        have h1 := hg1.q2
        unfold belowF at a5
        split at a5 <;> omega
      have hb0 : 0 ≤ q1.W ∧ q1.W ≤ 1000 ∧ 0 ≤ f1.Q ∧ f1.Q ≤ 1000 ∧ 0 ≤ q1.L ∧ q1.L ≤ 1000000 ∧ 0 ≤ costOf hs q1.N ∧ costOf hs q1.N ≤ 1000000 := by
        have h1 := hg1.q1
        have h2 := hg1.q2
        omega
      have hgd := serveF_gd hg1 hk1 hq1' (costOf hs q1.N) hcb
      obtain ⟨b, rfl⟩ : ∃ b, A' = some ⟨b, 0, none⟩ := by
        rcases hout.qs.addr with h | h
        · have := hout.qs.sl.none h; omega
        · exact h
      have yG := World.ownsRow.cellAt hout.fr 1 (by omega)
      have yA := World.ownsRow.cellAt hout.fr 2 (by omega)
      simp only [frC, List.getElem?_cons_succ, List.getElem?_cons_zero] at yG yA
      rw [hk1] at yA
      have yN := World.ownsRow.cellAt hout.qs (k1 * 3 + 0) (by omega)
      rw [flatT_at _ k1 0 q1 _ hq1' rfl] at yN
      simp only [Nat.add_zero] at yN
      have hin : (0 : Int) ≤ (k1 : Int) ∧ (k1 : Int) < (f1.ts.length : Int) := by omega
      have zc := World.ownsRow.cellAt (o2.keep hbx (by omega)) 0 (by omega)
      simp only [List.getElem?_cons_succ, List.getElem?_cons_zero] at zc
      have HK1 := Lib.hid hk1
      have HQ1 := Lib.hid hq1'
      have Hpk := Lib.hid hpk
      have Hn0 := Lib.hid hn0
      have Hgd := Lib.hid hgd
      have Hl1 := Lib.hid hlen1
      clear hk1 hq1' hpk hn0 hgd hlen1 a1 a2 a3 a4 a5 hbel
      have hlen2 : f1.ts.length ≤ 20 := hg1.len
      go_wp2_with fail
      refine (cost_any hs A2 m2 d2 (w.heap.size + 1) q1.N _ (hH.below hbw) hm2 zc HCb.out).mono ?_; rintro x w8 ⟨rfl, b8⟩
      have hout := hout.below b8
      have hbx8 := hbx.trans (b8.mono (by have := hbx.size; omega))
      clear yG yA yN zc hbw b8 hbx
      go_wp2_with fail
      refine (serve_any (w.heap.size + 3) w4.heap.size k1 c' _ f1 q1 (costOf hs q1.N) _ hout HK1.out HQ1.out (by omega) hb0).mono ?_; rintro x w9 ⟨rfl, ho9, b9⟩
      have hbx9 := hbx8.trans b9
      have hsl := serveF_len f1 k1 q1 (costOf hs q1.N)
      obtain ⟨hsa, hsq⟩ := serveF_at f1 k1 q1 (costOf hs q1.N)
      have hpk := Hpk.out
      have hgd := Hgd.out
      obtain ⟨⟨f2, z2⟩, hsv⟩ : ∃ p, serveF f1 k1 q1 (costOf hs q1.N) = p := ⟨_, rfl⟩
      rw [hsv] at hsl hsa hsq hpk hgd ho9 ⊢
      simp only at hsl hsa hsq hpk hgd ho9 ⊢
      rw [HK1.out] at hsa
      clear hsv hout hbx8 b9 hb0 hcb Hpk Hgd
      cases z2 with
      | true =>
        simp only [if_true, Option.some.injEq] at hpk
        subst hpk
        have Hsa := Lib.hid hsa
        have oF := ho9.fr
        have oQs := ho9.qs
        have oR := o3.keep hbx9 (by omega)
        have hkl2 := (List.getElem?_eq_some_iff.1 hq).1
        have hin : (0 : Int) ≤ (k : Int) ∧ (k : Int) < (f2.ts.length : Int) := by omega
        have hbw9 := bE.trans (hbx9.mono (by omega))
        have hgg := World.ownsRow.lt oF w4.heap.size rfl
        rw [hk] at oF
        have Hk := Lib.hid hk
        clear hsa hsl hsq hgd ho9
        go_wp2_with fail
        --@region 22 12 pick12.spec
        refine wp_region_runN [8] (fun _ w2 => JevF w.heap.size (w.heap.size + 1 + 1) frZ w2) (by kernel_rfl) (by kernel_rfl) (by kernel_rfl) (R := Rr (w.heap.size + 1 + 1)) (fun _ _ h => below_grownBy h _) (fun _ _ _ => grownBy_trans) (JevF_stable _ _ _) oR ?_
        apply RunN.pure (by decide)
        · intro vs w hb hd; clear hd; have oX := Own.apart oF hb (by omega); have k0 := World.ownsRow.cellAt oX 0 (by omega); have k1 := World.ownsRow.cellAt oX 1 (by omega); have k2 := World.ownsRow.cellAt oX 2 (by omega); have k3 := World.ownsRow.cellAt oX 3 (by omega); simp only [frC, List.getElem?_cons_succ, List.getElem?_cons_zero] at k0 k1 k2 k3; simp only [List.take, putL, Act.put, List.setIfInBounds_toArray, List.set_cons_zero, List.set_cons_succ]; unfold StepOK; go_simp; exact ⟨Below.refl _ _, isV_mk _ _⟩
        apply RunN.pure (by decide)
        · intro vs w hb hd; clear hd; simp only [List.take, putL, Act.put, List.setIfInBounds_toArray, List.set_cons_zero, List.set_cons_succ]; unfold StepOK; go_simp; exact ⟨Below.refl _ _, isV_mk _ _⟩
        apply RunN.pure (by decide)
        · intro vs w hb hd; have d1 : isV _ (vs 1) w := hd 1 (by decide) (by kernel_rfl); unfold isV at d1; clear hd; have k1 := World.ownsRow.cellAt (Own.apart oF hb (by omega)) 1 (by omega); simp only [frC, List.getElem?_cons_succ, List.getElem?_cons_zero] at k1; simp only [List.take, putL, Act.put, List.setIfInBounds_toArray, List.set_cons_zero, List.set_cons_succ]; unfold StepOK; go_simp; exact ⟨Below.refl _ _, isV_mk _ _⟩
        apply RunN.pure (by decide)
        · intro vs w hb hd; clear hd; simp only [List.take, putL, Act.put, List.setIfInBounds_toArray, List.set_cons_zero, List.set_cons_succ]; unfold StepOK; go_simp; exact ⟨Below.refl _ _, isV_mk _ _⟩
        apply RunN.pure (by decide)
        · intro vs w hb hd; have d3 : isV _ (vs 3) w := hd 3 (by decide) (by kernel_rfl); unfold isV at d3; clear hd; have k2 := World.ownsRow.cellAt (Own.apart oF hb (by omega)) 2 (by omega); simp only [frC, List.getElem?_cons_succ, List.getElem?_cons_zero] at k2; simp only [List.take, putL, Act.put, List.setIfInBounds_toArray, List.set_cons_zero, List.set_cons_succ]; unfold StepOK; go_simp; exact ⟨Below.refl _ _, isV_mk _ _⟩
        apply RunN.pure (by decide)
        · intro vs w hb hd; have d2 : isV _ (vs 2) w := hd 2 (by decide) (by kernel_rfl); unfold isV at d2; have d4 : isV _ (vs 4) w := hd 4 (by decide) (by kernel_rfl); unfold isV at d4; clear hd; have hq1 := hin; simp only [List.take, putL, Act.put, List.setIfInBounds_toArray, List.set_cons_zero, List.set_cons_succ]; unfold StepOK; go_simp; exact ⟨Below.refl _ _, isV_mk _ _⟩
        apply RunN.pure (by decide)
        · intro vs w hb hd; have d5 : isV _ (vs 5) w := hd 5 (by decide) (by kernel_rfl); unfold isV at d5; clear hd; simp only [List.take, putL, Act.put, List.setIfInBounds_toArray, List.set_cons_zero, List.set_cons_succ]; unfold StepOK; go_simp; exact ⟨Below.refl _ _, isV_mk _ _⟩
        apply RunN.pure (by decide)
        · intro vs w hb hd; have d6 : isV _ (vs 6) w := hd 6 (by decide) (by kernel_rfl); unfold isV at d6; clear hd; have kN := World.ownsRow.cellAt (Own.past oQs hb (by omega)) (k * 3 + 0) (by omega); rw [flatT_at _ k 0 q _ hq rfl] at kN; simp only [Nat.add_zero] at kN; simp only [List.take, putL, Act.put, List.setIfInBounds_toArray, List.set_cons_zero, List.set_cons_succ]; unfold StepOK; go_simp; exact ⟨Below.refl _ _, isV_mk _ _⟩
        refine RunN.store (by decide) (JevF w.heap.size (w.heap.size + 1 + 1) (frC f2.Q (some ⟨b, 0, none⟩) f2.ts.length c' (k : Int) f2.H)) (JevF_stable _ _ _) ?_ ?_
        · intro vs w hb hd hj; have d0 : isV _ (vs 0) w := hd 0 (by decide) (by kernel_rfl); unfold isV at d0; clear hd; have hj2 := hj; (try simp only [prevE, lastV, lastS, List.mem_cons, List.not_mem_nil, or_false, Nat.reduceEqDiff, Nat.reduceAdd, if_true, if_false, reduceIte, or_true, true_or, or_self] at hj2); clear hj; unfold JevF at hj2; have y0 := World.ownsRow.cellAt hj2 0 (by omega); have x0 := World.ownsRow.frozenAt hj2 0; have y1 := World.ownsRow.cellAt hj2 1 (by omega); have x1 := World.ownsRow.frozenAt hj2 1; have y2 := World.ownsRow.cellAt hj2 2 (by omega); have x2 := World.ownsRow.frozenAt hj2 2; have y3 := World.ownsRow.cellAt hj2 3 (by omega); have x3 := World.ownsRow.frozenAt hj2 3; simp only [frZ, List.getElem?_cons_succ, List.getElem?_cons_zero] at y0 y1 y2 y3; have st := stored4 hj2 (.int .i64 f2.Q) (.slice (some ⟨b, 0, none⟩) f2.ts.length c') (.int .i64 (k : Int)) (.bool f2.H); clear hj2; simp only [List.take, putL, Act.put, List.setIfInBounds_toArray, List.set_cons_zero, List.set_cons_succ]; unfold StepE; go_simp; exact ⟨st.2, st.1⟩
        apply RunN.pure (by decide)
        · intro vs w hb hd; have d0 : isV _ (vs 0) w := hd 0 (by decide) (by kernel_rfl); unfold isV at d0; have d1 : isV _ (vs 1) w := hd 1 (by decide) (by kernel_rfl); unfold isV at d1; have d2 : isV _ (vs 2) w := hd 2 (by decide) (by kernel_rfl); unfold isV at d2; have d3 : isV _ (vs 3) w := hd 3 (by decide) (by kernel_rfl); unfold isV at d3; have d4 : isV _ (vs 4) w := hd 4 (by decide) (by kernel_rfl); unfold isV at d4; have d5 : isV _ (vs 5) w := hd 5 (by decide) (by kernel_rfl); unfold isV at d5; have d6 : isV _ (vs 6) w := hd 6 (by decide) (by kernel_rfl); unfold isV at d6; have d7 : isV _ (vs 7) w := hd 7 (by decide) (by kernel_rfl); unfold isV at d7; clear hd; simp only [List.take, putL, Act.put, List.setIfInBounds_toArray, List.set_cons_zero, List.set_cons_succ]; unfold StepOK; go_simp; exact ⟨Below.refl _ _, isV_mk _ _⟩
        apply RunN.pure (by decide)
        · intro vs w hb hd; have d0 : isV _ (vs 0) w := hd 0 (by decide) (by kernel_rfl); unfold isV at d0; have d1 : isV _ (vs 1) w := hd 1 (by decide) (by kernel_rfl); unfold isV at d1; have d2 : isV _ (vs 2) w := hd 2 (by decide) (by kernel_rfl); unfold isV at d2; have d3 : isV _ (vs 3) w := hd 3 (by decide) (by kernel_rfl); unfold isV at d3; have d4 : isV _ (vs 4) w := hd 4 (by decide) (by kernel_rfl); unfold isV at d4; have d5 : isV _ (vs 5) w := hd 5 (by decide) (by kernel_rfl); unfold isV at d5; have d6 : isV _ (vs 6) w := hd 6 (by decide) (by kernel_rfl); unfold isV at d6; have d7 : isV _ (vs 7) w := hd 7 (by decide) (by kernel_rfl); unfold isV at d7; have d9 : isV _ (vs 9) w := hd 9 (by decide) (by kernel_rfl); unfold isV at d9; clear hd; simp only [List.take, putL, Act.put, List.setIfInBounds_toArray, List.set_cons_zero, List.set_cons_succ]; unfold StepOK; go_simp; exact ⟨Below.refl _ _, isV_mk _ _⟩
        intro vs w1 hb hd hj
        try simp only [prevE, lastV, lastS, List.mem_cons, List.not_mem_nil, or_false, Nat.reduceEqDiff, Nat.reduceAdd, if_true, if_false, reduceIte, or_true, true_or, or_self] at hj
        have e0 : isV _ (vs 0) w1 := hd 0 (by decide)
        have e1 : isV _ (vs 1) w1 := hd 1 (by decide)
        have e2 : isV _ (vs 2) w1 := hd 2 (by decide)
        have e3 : isV _ (vs 3) w1 := hd 3 (by decide)
        have e4 : isV _ (vs 4) w1 := hd 4 (by decide)
        have e5 : isV _ (vs 5) w1 := hd 5 (by decide)
        have e6 : isV _ (vs 6) w1 := hd 6 (by decide)
        have e7 : isV _ (vs 7) w1 := hd 7 (by decide)
        have e9 : isV _ (vs 9) w1 := hd 9 (by decide)
        have e10 : isV _ (vs 10) w1 := hd 10 (by decide)
        clear hd
        unfold isV at e0 e1 e2 e3 e4 e5 e6 e7 e9 e10
        simp only [putL, Act.put, List.setIfInBounds_toArray, List.set_cons_zero, List.set_cons_succ, e0, e1, e2, e3, e4, e5, e6, e7, e9, e10]
        clear e0 e1 e2 e3 e4 e5 e6 e7 e9 e10
        --@end
        unfold JevF at hj
        have hb3 := (World.ownsRow.lt oQs b rfl).1
        have hfinS := (oQs.past hb (by omega)).sl
        have hfinB := hbw9.grown hb (by have := hbw9.size; omega) (fun j hj => by cases hj; omega)
        clear oF oQs oR hb hbw9 hgg o2 o3
        try clear e0 e1 e2 e3 e4 e5 e6 e7
        go_wp2_with fail
        refine bodyPost_ret (results_cell2 rfl _ _ _ ⟨w.heap.size + 1 + 1, 0, none⟩ rfl _ (load_ownF hj)) rfl ?_
        exact ⟨_, c', by rw [Hk.out]; rfl, hfinS, hfinB, fun a ha => by cases ha; show w.heap.size ≤ b; omega⟩
      | false =>
        simp only [Bool.false_eq_true, if_false] at hpk
        have hgd2 := hgd.2 rfl
        have Hpk := Lib.hid hpk
        have yG := World.ownsRow.cellAt ho9.fr 1 (by omega)
        have yA := World.ownsRow.cellAt ho9.fr 2 (by omega)
        have yH := World.ownsRow.cellAt ho9.fr 3 (by omega)
        simp only [frC, List.getElem?_cons_succ, List.getElem?_cons_zero] at yG yA yH
        rw [hsl] at yG
        rw [hsa] at yA
        have xA := World.ownsRow.frozenAt ho9.fr 2
        have hmod : ((k1 : Int) + 1).tmod (f1.ts.length : Int) = (((k1 : Int) + 1) % (f1.ts.length : Int)) := by
          exact Int.tmod_eq_emod_of_nonneg (by omega)
        have s1 := World.ownsRow.stored ho9.fr 2 (.int .i64 (((k1 : Int) + 1) % (f1.ts.length : Int)))
        have s2 := World.ownsRow.stored s1.1 3 (.bool false)
        have x3 := World.ownsRow.frozenAt s1.1 3
        have y3 := World.ownsRow.cellAt s1.1 3 (by omega)
        simp only [frC, List.set_cons_zero, List.set_cons_succ, List.getElem?_cons_succ, List.getElem?_cons_zero] at y3
        have hl0 : ¬ ((f1.ts.length : Int) = 0) := by omega
        have hQs := ho9.qs
        have hne9 := ho9.ne
        have hbb := World.ownsRow.lt hQs b rfl
        have hgg := World.ownsRow.lt ho9.fr w4.heap.size rfl
        have hq2 := Own.apart (Own.apart hQs s1.2 (by have := hne9 _ rfl; simpa using this)) s2.2 (by have := hne9 _ rfl; simpa using this)
        have hbx10 := (hbx9.grown s1.2 (by have := hbx9.size; omega) (fun j hj => by cases hj; omega)).grown s2.2 (by have := hbx9.size; have := s1.2.size; omega) (fun j hj => by cases hj; omega)
        have hfin : P n1 ((w9.setCell ⟨w4.heap.size, 2, none⟩ (.int .i64 (((k1 : Int) + 1) % (f1.ts.length : Int)))).setCell ⟨w4.heap.size, 3, none⟩ (.bool false)) := by
          rw [HP.out]
          refine ⟨advF f2, ⟨?_, hq2, hne9⟩, hgd2, by show f2.ts.length = m; rw [hsl]; exact Hl1.out, Hpk.out, hbx10⟩
          have := s2.1
          simp only [frC, List.set_cons_zero, List.set_cons_succ] at this
          simp only [advF, frC, hsa, hsl, hmod]
          rw [hsl] at this
          exact this
        have Hfin := Lib.hid hfin
        clear hfin s1 s2 hq2 hbx10 hpk hgd hgd2 hQs hne9 ho9
        go_wp2_with fail
        go_roundw
        case rel => exact Lib.hid ⟨n1, Hfin.out⟩
        case measure =>
          have := least_le (p := fun n => P n _) Hfin.out
          have := Hn0.out
          omega
end Go.Proofs.Ytphjmbhlokkdiaa
