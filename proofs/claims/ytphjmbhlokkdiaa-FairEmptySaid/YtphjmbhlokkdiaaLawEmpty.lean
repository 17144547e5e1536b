import Derived.Test.YtphjmbhlokkdiaaLawWeights
namespace Go.Proofs.Ytphjmbhlokkdiaa
open Go.RowKit Go.Maps Go.WideShapes Go.WideMaps
set_option linter.unusedSimpArgs false
set_option linter.unusedVariables false

theorem pickN_congr {hs hs' : List Hd} (h : ∀ s, costOf hs s = costOf hs' s) : ∀ (n : Nat) (f : Fr), pickN n f hs = pickN n f hs' := by
  intro n
  induction n with
  | zero => intro f; rfl
  | succ n ih =>
    intro f
    rw [pickN, pickN]
    split
    · rfl
    · rename_i q _
      simp only [h q.N, ih]
def hsE : List Hd := [⟨[97], 1⟩, ⟨[98], 1⟩]
def hsA : List Hd := [⟨[97], 1⟩]
theorem costE (s : List UInt8) : costOf hsE s = costOf (hsW 1) s := by
  unfold hsE hsW costOf
  by_cases h1 : s = [97]
  · subst h1; rfl
  · by_cases h2 : s = [98]
    · subst h2; rfl
    · simp [List.find?, show ([97] = s) = False from eq_false (fun e => h1 e.symm), show ([98] = s) = False from eq_false (fun e => h2 e.symm)]
theorem costA : costOf hsA [97] = 1 ∧ costOf hsA [98] = 0 := by constructor <;> rfl
theorem pickA_0 (n : Nat) : pickN 10 (preW 1 n 0) hsA = some (preW 1 n 1) := by
  simp [preW, twoF, pickN, serveF, costA.1]
theorem pickA_1 (n : Nat) : pickN 10 (preW 1 n 1) hsA = some (preW 1 n 1) := by
  simp [preW, twoF, pickN, serveF, advF, costA.1, costA.2]

set_option maxRecDepth 100000 in
set_option maxHeartbeats 8000000 in
theorem walk_empty (kv ev : Nat) (w : World) (hkv : kv < 256) (hev : ev < 256) :
    Calls Try.prog 7 #[.int .u8 (kv : Int), .int .u8 (ev : Int)] w fun e w' => e = .returned (.bool true) ∧ Below w.heap.size w w' := by
  go_enter Try.func7, Try.ntmps7
  go_upto_region 2 with fail
  obtain ⟨n, hn⟩ : ∃ n : Nat, n = 1 + kv % 20 := ⟨_, rfl⟩
  have hn1 : 1 ≤ n := by omega
  have hn2 : n ≤ 20 := by omega
  have hn3 : (1 + (kv : Int) % 20) = (n : Int) := by omega
  rw [hn3]
  clear hn hn3
  go_wp2_with fail
  refine (fnew_any 1 _ (by decide) (by decide)).mono ?_; rintro x w1 ⟨rfl, b1⟩
  have o1 : Own w1.heap.size 36 1 (w1.alloc (.cells (frC 1 none 0 0 0 false).toArray 36)) (some ⟨w1.heap.size, 0, none⟩) 4 4 (frC 1 none 0 0 0 false) := new_own w1 (frC 1 none 0 0 0 false) 36 4 rfl (by unfold maxLen; omega)
  have b2 := below_alloc1 w1 (.cells (frC 1 none 0 0 0 false).toArray 36)
  have o1 := o1.lower (base' := w.heap.size) b1.size
  have bA := b1.trans (b2.mono b1.size)
  have hgw := b1.size
  simp only [frC] at o1 bA
  clear b1 b2
  unfold frV
  go_upto_region 3 with fail
  generalize w1.alloc (.cells #[.int .i64 1, .slice none 0 0, .int .i64 0, .bool false] 36) = w2 at *
  have y0 := World.ownsRow.cellAt o1 0 (by omega)
  have y1 := World.ownsRow.cellAt o1 1 (by omega)
  have y2 := World.ownsRow.cellAt o1 2 (by omega)
  have y3 := World.ownsRow.cellAt o1 3 (by omega)
  simp only [List.getElem?_cons_succ, List.getElem?_cons_zero] at y0 y1 y2 y3
  have hg1 := World.ownsRow.lt o1 w1.heap.size rfl
  go_wp2_with fail
  refine (fset_any ⟨1, [], 0, false⟩ [97] 1 none 0 _ (Sl.nil _ 3) (by decide) (by decide) (by decide) (by decide) (by rfl) (by simp)).mono ?_; rintro x w3 ⟨A3, c3, rfl, s3, b3, f3⟩
  simp only [frV, addT, List.nil_append, List.length_cons, List.length_nil, Nat.zero_add] at s3 ⊢
  have o1 := o1.below b3
  have bB := bA.trans (b3.mono (by have := bA.size; omega))
  clear y0 y1 y2 y3 bA b3
  have y0 := World.ownsRow.cellAt o1 0 (by omega)
  have y1 := World.ownsRow.cellAt o1 1 (by omega)
  have y2 := World.ownsRow.cellAt o1 2 (by omega)
  have y3 := World.ownsRow.cellAt o1 3 (by omega)
  simp only [List.getElem?_cons_succ, List.getElem?_cons_zero] at y0 y1 y2 y3
  have x0 := World.ownsRow.frozenAt o1 0
  have x1 := World.ownsRow.frozenAt o1 1
  have x2 := World.ownsRow.frozenAt o1 2
  have x3 := World.ownsRow.frozenAt o1 3
  have st := stored4 o1 (.int .i64 1) (.slice A3 1 c3) (.int .i64 0) (.bool false)
  have s4 := s3.grown st.2 (fun a ha he => by
    have e1 : a.block = w1.heap.size := Option.some.inj he
    have := f3 a ha
    omega)
  have o2 := st.1
  have bC := bB.grown st.2 bB.size (fun j hj => by cases hj; omega)
  clear st s3 bB
  go_upto_region 4 with fail
  generalize ((((w3.setCell ⟨w1.heap.size, 0, none⟩ (.int .i64 1)).setCell ⟨w1.heap.size, 1, none⟩ (.slice A3 1 c3)).setCell ⟨w1.heap.size, 2, none⟩ (.int .i64 0)).setCell ⟨w1.heap.size, 3, none⟩ (.bool false)) = w4 at *
  clear y0 y1 y2 y3 x0 x1 x2 x3 o1
  have y0 := World.ownsRow.cellAt o2 0 (by omega)
  have y1 := World.ownsRow.cellAt o2 1 (by omega)
  have y2 := World.ownsRow.cellAt o2 2 (by omega)
  have y3 := World.ownsRow.cellAt o2 3 (by omega)
  simp only [List.getElem?_cons_succ, List.getElem?_cons_zero] at y0 y1 y2 y3
  have hg4 := World.ownsRow.lt o2 w1.heap.size rfl
  go_wp2_with fail
  refine (fset_any ⟨1, [⟨[97], 1, 0⟩], 0, false⟩ [98] (n : Int) A3 c3 _ s4 (by simp [rightF, List.range_succ, okAt, okT, namedB, belowF]) (by decide) (by omega) (by omega) (by rfl) (by simp)).mono ?_; rintro x w5 ⟨A5, c5, rfl, s5, b5, f5⟩
  simp only [frV, addT, List.cons_append, List.nil_append, List.length_cons, List.length_nil, Nat.zero_add, Nat.reduceAdd] at s5 ⊢
  have o2 := o2.below b5
  have bD := bC.trans (b5.mono (by have := bC.size; omega))
  clear y0 y1 y2 y3 bC b5 s4
  have y0 := World.ownsRow.cellAt o2 0 (by omega)
  have y1 := World.ownsRow.cellAt o2 1 (by omega)
  have y2 := World.ownsRow.cellAt o2 2 (by omega)
  have y3 := World.ownsRow.cellAt o2 3 (by omega)
  simp only [List.getElem?_cons_succ, List.getElem?_cons_zero] at y0 y1 y2 y3
  have x0 := World.ownsRow.frozenAt o2 0
  have x1 := World.ownsRow.frozenAt o2 1
  have x2 := World.ownsRow.frozenAt o2 2
  have x3 := World.ownsRow.frozenAt o2 3
  have st := stored4 o2 (.int .i64 1) (.slice A5 2 c5) (.int .i64 0) (.bool false)
  have s6 := s5.grown st.2 (fun a ha he => by
    have e1 : a.block = w1.heap.size := Option.some.inj he
    have := f5 a ha
    omega)
  have o3 := st.1
  have bE := bD.grown st.2 bD.size (fun j hj => by cases hj; omega)
  clear st s5 bD
  go_upto_region 5 with fail
  generalize ((((w5.setCell ⟨w1.heap.size, 0, none⟩ (.int .i64 1)).setCell ⟨w1.heap.size, 1, none⟩ (.slice A5 2 c5)).setCell ⟨w1.heap.size, 2, none⟩ (.int .i64 0)).setCell ⟨w1.heap.size, 3, none⟩ (.bool false)) = w6 at *
  clear y0 y1 y2 y3 x0 x1 x2 x3 o2
  go_upto_region 8 with fail
  have oA0 : Own w6.heap.size 45 1 (w6.alloc (.cells #[.string { data := #[97] }, .int .i64 1] 45)) (some ⟨w6.heap.size, 0, none⟩) 2 2 [.string { data := #[97] }, .int .i64 1] := new_own w6 [.string { data := #[97] }, .int .i64 1] 45 2 rfl (by unfold maxLen; omega)
  have n7 : (w6.alloc (.cells #[.string { data := #[97] }, .int .i64 1] 45)).heap.size = w6.heap.size + 1 := by simp
  have b7 := below_alloc1 w6 (.cells #[.string { data := #[97] }, .int .i64 1] 45)
  have b8 := below_alloc1 (w6.alloc (.cells #[.string { data := #[97] }, .int .i64 1] 45)) (.cells #[.string { data := #[98] }, .int .i64 1] 45)
  have oB0 : Own (w6.alloc (.cells #[.string { data := #[97] }, .int .i64 1] 45)).heap.size 45 1 ((w6.alloc (.cells #[.string { data := #[97] }, .int .i64 1] 45)).alloc (.cells #[.string { data := #[98] }, .int .i64 1] 45)) (some ⟨(w6.alloc (.cells #[.string { data := #[97] }, .int .i64 1] 45)).heap.size, 0, none⟩) 2 2 [.string { data := #[98] }, .int .i64 1] := new_own (w6.alloc (.cells #[.string { data := #[97] }, .int .i64 1] 45)) [.string { data := #[98] }, .int .i64 1] 45 2 rfl (by unfold maxLen; omega)
  have oA := (oA0.lower (base' := w.heap.size) bE.size).below b8
  have oB := oB0.lower (base' := w.heap.size) (by have := bE.size; omega)
  rw [n7] at oB
  have oF := (o3.below b7).below b8
  have sF := (s6.below b7).below b8
  have bE := bE.trans ((b7.trans (b8.mono (by omega))).mono bE.size)
  have hgg := (World.ownsRow.lt o3 w1.heap.size rfl).2
  clear oA0 oB0 n7 b7 b8 o3 s6
  generalize (w6.alloc (.cells #[.string { data := #[97] }, .int .i64 1] 45)).alloc (.cells #[.string { data := #[98] }, .int .i64 1] 45) = w0 at *
  have hgd0 := Lib.hid (preW_gd 1 n (by decide) (by decide) hn1 (by omega))
  have HCE := Lib.hid (show ∀ x, x ∈ hsE → 1 ≤ x.C ∧ x.C ≤ 1000 by intro x hx; simp [hsE] at hx; rcases hx with rfl | rfl <;> decide)
  have HCA := Lib.hid (show ∀ x, x ∈ hsA → 1 ≤ x.C ∧ x.C ≤ 1000 by intro x hx; simp [hsA] at hx; subst hx; decide)
  have HME := Lib.hid (show ∀ ts : List Tn, ts.map Tn.N = [[97], [98]] → MayOK ts hsE by
    intro ts hts
    refine ⟨by decide, fun h hh => ?_⟩
    simp [hsE] at hh
    rcases hh with rfl | rfl
    · exact ⟨by simp, placeI_mem (by rw [hts]; simp), by decide, by decide⟩
    · exact ⟨by simp, placeI_mem (by rw [hts]; simp), by decide, by decide⟩)
  have HMA := Lib.hid (show ∀ ts : List Tn, ts.map Tn.N = [[97], [98]] → MayOK ts hsA by
    intro ts hts
    refine ⟨by decide, fun h hh => ?_⟩
    simp [hsA] at hh
    subst hh
    exact ⟨by simp, placeI_mem (by rw [hts]; simp), by decide, by decide⟩)
  obtain ⟨N, hNN⟩ : ∃ N : Nat, N = 2 + ev % 60 := ⟨_, rfl⟩
  have hN1 : 1 ≤ N := by omega
  have hN2 : N ≤ 61 := by omega
  have hN3 : (2 + (ev : Int) % 60) = (N : Int) := by omega
  have hwr : IntKind.u8.wrap (2 + (ev : Int) % 60) = (N : Int) := by rw [hN3]; exact wrap_u8_nat N (by omega)
  clear hNN hN3
  go_upto_block 0 with fail
  go_wp2_with fail
  go_loopw [49] (fun s49 wx => ∃ (i : Nat) (f : Fr) (A : Option Addr) (cc : Nat), i ≤ N ∧ s49 = .int .u8 (i : Int) ∧ Own w.heap.size 36 1 wx (some ⟨w1.heap.size, 0, none⟩) 4 4 (frC f.Q A f.ts.length cc f.At f.H) ∧ Sl wx 3 A f.ts.length cc (flatT f.ts) ∧ Own w.heap.size 45 1 wx (some ⟨w6.heap.size, 0, none⟩) 2 2 [.string { data := #[97] }, .int .i64 1] ∧ Own w.heap.size 45 1 wx (some ⟨w6.heap.size + 1, 0, none⟩) 2 2 [.string { data := #[98] }, .int .i64 1] ∧ Hid (Gd f) ∧ Hid (f = preW 1 n (if i = 0 then 0 else 1)) ∧ Below w.heap.size w wx) (fun iv _ => N - (intOf iv).toNat)
  case atStart => exact ⟨0, preW 1 n 0, A5, c5, by omega, rfl, oF, sF, oA, oB, hgd0, Lib.hid rfl, bE⟩
  case round =>
    clear oF sF oA oB
    obtain ⟨i, f, A, cc, hin, rfl, oF, sF, oA, oB, HG, HN, bF⟩ := hrel
    have hwi : IntKind.u8.wrap ((i : Int) + 1) = (i : Int) + 1 := by
      have := wrap_u8_nat (i + 1) (by omega)
      simpa using this
    by_cases g1 : (i : Int) < (N : Int)
    · obtain ⟨fr, hfr⟩ : ∃ fr, fr = preW 1 n 1 := ⟨_, rfl⟩
      have hpk : pickN 10 f hsA = some fr := by
        rw [HN.out, hfr]
        by_cases h : i = 0
        · rw [if_pos h]; exact pickA_0 n
        · rw [if_neg h]; exact pickA_1 n
      have hat : ∃ (k : Nat) (q1 : Tn), fr.At = (k : Int) ∧ fr.ts[k]? = some q1 ∧ q1.N = [97] := ⟨0, ⟨[97], 1, 0⟩, by rw [hfr]; rfl, by rw [hfr]; rfl, rfl⟩
      have Hfr := Lib.hid hfr
      clear hfr
      have HG1 := Lib.hid (pickN_spec (HCA.out) 10 f fr HG.out hpk).1
      obtain ⟨k, q1, p4, p5, hN⟩ := hat
      have Hp4 := Lib.hid p4
      have Hp5 := Lib.hid p5
      have HqN := Lib.hid hN
      have Hpk1 := Lib.hid hpk
      have Hnm := Lib.hid (show f.ts.map Tn.N = [[97], [98]] by rw [HN.out]; exact preW_names 1 n _)
      clear p4 p5 hN hpk
      have bH := below_alloc1 wr (.cells #[.string (bstr [97]), .int .i64 1] 45)
      have sH : Sl (wr.alloc (.cells #[.string (bstr [97]), .int .i64 1] 45)) 2 (some ⟨wr.heap.size, 0, none⟩) 1 1 (flatH hsA) :=
        ⟨(sl_cells wr [.string (bstr [97]), .int .i64 1] 45).cells, rfl, Nat.le_refl _, fun h => by cases h⟩
      have sF7 := sF.below bH
      have oF7 := oF.below bH
      have oA7 := oA.below bH
      have oB7 := oB.below bH
      have Hgw := Lib.hid (show w1.heap.size < (wr.alloc (.cells #[.string (bstr [97]), .int .i64 1] 45)).heap.size from (World.ownsRow.lt oF7 w1.heap.size rfl).2)
      have bG := bF.trans (bH.mono bF.size)
      have y0 := World.ownsRow.cellAt oF 0 (by omega)
      have y1 := World.ownsRow.cellAt oF 1 (by omega)
      have y2 := World.ownsRow.cellAt oF 2 (by omega)
      have y3 := World.ownsRow.cellAt oF 3 (by omega)
      simp only [frC, List.getElem?_cons_succ, List.getElem?_cons_zero] at y0 y1 y2 y3
      have u0 := World.ownsRow.cellAt oA 0 (by omega)
      have u1 := World.ownsRow.cellAt oA 1 (by omega)
      have v0 := World.ownsRow.cellAt oB 0 (by omega)
      have v1 := World.ownsRow.cellAt oB 1 (by omega)
      simp only [List.getElem?_cons_succ, List.getElem?_cons_zero] at u0 u1 v0 v1
      clear sF bH bF
      go_wp2_with fail
      refine (pick_any f fr hsA 10 k q1 A (some ⟨wr.heap.size, 0, none⟩) cc 1 1 _ sF7 sH (by omega) HG.out (HMA.out f.ts Hnm.out) (by decide) Hpk1.out Hp4.out Hp5.out).mono ?_; rintro x w7 ⟨A7, c7, rfl, s7, b7, f7⟩
      have hsz7 := bG.size
      have oF8 := oF7.below b7
      have oA8 := oA7.below b7
      have oB8 := oB7.below b7
      have bH := bG.trans (b7.mono bG.size)
      clear y0 y1 y2 y3 u0 u1 v0 v1 sF7 sH oF7 oF oA oB oA7 oB7 b7 bG
      have o8 : Own w7.heap.size 36 1 (w7.alloc (.cells (frC fr.Q A7 fr.ts.length c7 fr.At fr.H).toArray 36)) (some ⟨w7.heap.size, 0, none⟩) 4 4 (frC fr.Q A7 fr.ts.length c7 fr.At fr.H) := new_own w7 (frC fr.Q A7 fr.ts.length c7 fr.At fr.H) 36 4 rfl (by unfold maxLen; omega)
      have b8 := below_alloc1 w7 (.cells (frC fr.Q A7 fr.ts.length c7 fr.At fr.H).toArray 36)
      have oF9 := oF8.below b8
      have oA9 := oA8.below b8
      have oB9 := oB8.below b8
      have s9 := s7.below b8
      have bI := bH.trans (b8.mono bH.size)
      simp only [frC] at o8 b8 oF9 oA9 oB9 s9 bI
      clear b8 oF8 oA8 oB8 s7 bH
      unfold frV
      go_upto_region 11 with fail
      generalize w7.alloc (.cells #[.int .i64 fr.Q, .slice A7 fr.ts.length c7, .int .i64 fr.At, .bool fr.H] 36) = w8 at *
      have z0 := World.ownsRow.cellAt o8 0 (by omega)
      have z1 := World.ownsRow.cellAt o8 1 (by omega)
      have z2 := World.ownsRow.cellAt o8 2 (by omega)
      have z3 := World.ownsRow.cellAt o8 3 (by omega)
      simp only [List.getElem?_cons_succ, List.getElem?_cons_zero] at z0 z1 z2 z3
      have y0 := World.ownsRow.cellAt oF9 0 (by omega)
      have y1 := World.ownsRow.cellAt oF9 1 (by omega)
      have y2 := World.ownsRow.cellAt oF9 2 (by omega)
      have y3 := World.ownsRow.cellAt oF9 3 (by omega)
      simp only [List.getElem?_cons_succ, List.getElem?_cons_zero] at y0 y1 y2 y3
      have x0 := World.ownsRow.frozenAt oF9 0
      have x1 := World.ownsRow.frozenAt oF9 1
      have x2 := World.ownsRow.frozenAt oF9 2
      have x3 := World.ownsRow.frozenAt oF9 3
      have st := stored4 oF9 (.int .i64 fr.Q) (.slice A7 fr.ts.length c7) (.int .i64 fr.At) (.bool fr.H)
      have s10 := s9.grown st.2 (fun a ha he => by
        have e1 : a.block = w1.heap.size := Option.some.inj he
        have := f7 a ha
        have := Hgw.out
        omega)
      have bJ := bI.grown st.2 bI.size (fun j hj => by cases hj; omega)
      have oA10 := Own.apart oA9 st.2 (by omega)
      have oB10 := Own.apart oB9 st.2 (by omega)
      have oK := st.1
      have hN := HqN.out
      clear st s9 bI o8 oF9 oA9 oB9
      obtain ⟨N1, W1, L1⟩ := q1
      simp only at hN
      subst hN
      rw [show bstr [97] = ({ data := #[97] } : ByteArray) from rfl]
      go_wp2_with fail
      go_roundw
      case rel => exact ⟨i + 1, fr, A7, c7, by omega, by go_num, oK, s10, oA10, oB10, HG1, Lib.hid (by rw [if_neg (by omega)]; exact Hfr.out), bJ⟩
      case measure => simp [intOf]; omega
    · obtain rfl : i = N := by omega
      have HN1 := Lib.hid (show f = preW 1 n 1 by rw [HN.out, if_neg (by omega)])
      clear HN
      go_wp2_with fail
      go_loopw [15, 67] (fun s15 s67 wx => ∃ (i t : Nat) (f : Fr) (A : Option Addr) (cc : Nat), i ≤ 60 ∧ 1 ≤ t ∧ t ≤ n + 1 ∧ s67 = .int .i64 (i : Int) ∧ s15 = .int .i64 (((t - 1 : Nat)) : Int) ∧ Own w.heap.size 36 1 wx (some ⟨w1.heap.size, 0, none⟩) 4 4 (frC f.Q A f.ts.length cc f.At f.H) ∧ Sl wx 3 A f.ts.length cc (flatT f.ts) ∧ Own w.heap.size 45 1 wx (some ⟨w6.heap.size, 0, none⟩) 2 2 [.string { data := #[97] }, .int .i64 1] ∧ Own w.heap.size 45 1 wx (some ⟨w6.heap.size + 1, 0, none⟩) 2 2 [.string { data := #[98] }, .int .i64 1] ∧ Hid (Gd f) ∧ Hid (f = preW 1 n t) ∧ Below w.heap.size w wx) (fun _ iv _ => 60 - (intOf iv).toNat)
      case atStart => exact ⟨0, 1, f, A, cc, by omega, by omega, by omega, rfl, rfl, oF, sF, oA, oB, HG, HN1, bF⟩
      case round =>
        clear oF sF oA oB
        clear HN1 HG
        obtain ⟨i, tt, f, A, cc, hin, ht1, ht2, rfl, rfl, oF, sF, oA, oB, HG, HN, bF⟩ := hrel
        by_cases g2 : (i : Int) < 60
        · have hpkE : pickN 10 f hsE = some (preW 1 n (nxtW n tt)) := by
            rw [HN.out, pickN_congr costE]
            exact pickW_all 1 n tt (by decide) hn1 ht2
          by_cases htn : tt = n + 1
          · obtain ⟨fr, hfr⟩ : ∃ fr, fr = preW 1 n 1 := ⟨_, rfl⟩
            have hpk : pickN 10 f hsE = some fr := by rw [hpkE, hfr, nxtW, if_pos (.inr htn)]
            have hat : ∃ (k : Nat) (q1 : Tn), fr.At = (k : Int) ∧ fr.ts[k]? = some q1 ∧ q1.N = [97] := ⟨0, ⟨[97], 1, 0⟩, by rw [hfr]; rfl, by rw [hfr]; rfl, rfl⟩
            have Hfr := Lib.hid hfr
            clear hfr hpkE
            have HG1 := Lib.hid (pickN_spec (HCE.out) 10 f fr HG.out hpk).1
            obtain ⟨k, q1, p4, p5, hN⟩ := hat
            have Hp4 := Lib.hid p4
            have Hp5 := Lib.hid p5
            have HqN := Lib.hid hN
            have Hpk1 := Lib.hid hpk
            have Hnm := Lib.hid (show f.ts.map Tn.N = [[97], [98]] by rw [HN.out]; exact preW_names 1 n _)
            clear p4 p5 hN hpk
            have bH := below_alloc1 wr (.cells #[.string (bstr [97]), .int .i64 1, .string (bstr [98]), .int .i64 1] 45)
            have sH : Sl (wr.alloc (.cells #[.string (bstr [97]), .int .i64 1, .string (bstr [98]), .int .i64 1] 45)) 2 (some ⟨wr.heap.size, 0, none⟩) 2 2 (flatH hsE) :=
              ⟨(sl_cells wr [.string (bstr [97]), .int .i64 1, .string (bstr [98]), .int .i64 1] 45).cells, rfl, Nat.le_refl _, fun h => by cases h⟩
            have sF7 := sF.below bH
            have oF7 := oF.below bH
            have oA7 := oA.below bH
            have oB7 := oB.below bH
            have Hgw := Lib.hid (show w1.heap.size < (wr.alloc (.cells #[.string (bstr [97]), .int .i64 1, .string (bstr [98]), .int .i64 1] 45)).heap.size from (World.ownsRow.lt oF7 w1.heap.size rfl).2)
            have bG := bF.trans (bH.mono bF.size)
            have y0 := World.ownsRow.cellAt oF 0 (by omega)
            have y1 := World.ownsRow.cellAt oF 1 (by omega)
            have y2 := World.ownsRow.cellAt oF 2 (by omega)
            have y3 := World.ownsRow.cellAt oF 3 (by omega)
            simp only [frC, List.getElem?_cons_succ, List.getElem?_cons_zero] at y0 y1 y2 y3
            have u0 := World.ownsRow.cellAt oA 0 (by omega)
            have u1 := World.ownsRow.cellAt oA 1 (by omega)
            have v0 := World.ownsRow.cellAt oB 0 (by omega)
            have v1 := World.ownsRow.cellAt oB 1 (by omega)
            simp only [List.getElem?_cons_succ, List.getElem?_cons_zero] at u0 u1 v0 v1
            clear sF bH bF
            go_wp2_with fail
            refine (pick_any f fr hsE 10 k q1 A (some ⟨wr.heap.size, 0, none⟩) cc 2 2 _ sF7 sH (by omega) HG.out (HME.out f.ts Hnm.out) (by decide) Hpk1.out Hp4.out Hp5.out).mono ?_; rintro x w7 ⟨A7, c7, rfl, s7, b7, f7⟩
            have hsz7 := bG.size
            have oF8 := oF7.below b7
            have oA8 := oA7.below b7
            have oB8 := oB7.below b7
            have bH := bG.trans (b7.mono bG.size)
            clear y0 y1 y2 y3 u0 u1 v0 v1 sF7 sH oF7 oF oA oB oA7 oB7 b7 bG
            have o8 : Own w7.heap.size 36 1 (w7.alloc (.cells (frC fr.Q A7 fr.ts.length c7 fr.At fr.H).toArray 36)) (some ⟨w7.heap.size, 0, none⟩) 4 4 (frC fr.Q A7 fr.ts.length c7 fr.At fr.H) := new_own w7 (frC fr.Q A7 fr.ts.length c7 fr.At fr.H) 36 4 rfl (by unfold maxLen; omega)
            have b8 := below_alloc1 w7 (.cells (frC fr.Q A7 fr.ts.length c7 fr.At fr.H).toArray 36)
            have oF9 := oF8.below b8
            have oA9 := oA8.below b8
            have oB9 := oB8.below b8
            have s9 := s7.below b8
            have bI := bH.trans (b8.mono bH.size)
            simp only [frC] at o8 b8 oF9 oA9 oB9 s9 bI
            clear b8 oF8 oA8 oB8 s7 bH
            unfold frV
            go_upto_region 19 with fail
            generalize w7.alloc (.cells #[.int .i64 fr.Q, .slice A7 fr.ts.length c7, .int .i64 fr.At, .bool fr.H] 36) = w8 at *
            have z0 := World.ownsRow.cellAt o8 0 (by omega)
            have z1 := World.ownsRow.cellAt o8 1 (by omega)
            have z2 := World.ownsRow.cellAt o8 2 (by omega)
            have z3 := World.ownsRow.cellAt o8 3 (by omega)
            simp only [List.getElem?_cons_succ, List.getElem?_cons_zero] at z0 z1 z2 z3
            have y0 := World.ownsRow.cellAt oF9 0 (by omega)
            have y1 := World.ownsRow.cellAt oF9 1 (by omega)
            have y2 := World.ownsRow.cellAt oF9 2 (by omega)
            have y3 := World.ownsRow.cellAt oF9 3 (by omega)
            simp only [List.getElem?_cons_succ, List.getElem?_cons_zero] at y0 y1 y2 y3
            have x0 := World.ownsRow.frozenAt oF9 0
            have x1 := World.ownsRow.frozenAt oF9 1
            have x2 := World.ownsRow.frozenAt oF9 2
            have x3 := World.ownsRow.frozenAt oF9 3
            have st := stored4 oF9 (.int .i64 fr.Q) (.slice A7 fr.ts.length c7) (.int .i64 fr.At) (.bool fr.H)
            have s10 := s9.grown st.2 (fun a ha he => by
              have e1 : a.block = w1.heap.size := Option.some.inj he
              have := f7 a ha
              have := Hgw.out
              omega)
            have bJ := bI.grown st.2 bI.size (fun j hj => by cases hj; omega)
            have oA10 := Own.apart oA9 st.2 (by omega)
            have oB10 := Own.apart oB9 st.2 (by omega)
            have oK := st.1
            have hN := HqN.out
            clear st s9 bI o8 oF9 oA9 oB9
            obtain ⟨N1, W1, L1⟩ := q1
            simp only at hN
            subst hN
            rw [show bstr [97] = ({ data := #[97] } : ByteArray) from rfl]
            go_wp2_with fail
            go_roundw
            case rel => exact ⟨i + 1, 1, fr, A7, c7, by omega, by omega, by omega, by go_num, rfl, oK, s10, oA10, oB10, HG1, Hfr, bJ⟩
            case measure => simp [intOf]; omega
          · obtain ⟨fr, hfr⟩ : ∃ fr, fr = preW 1 n (tt + 1) := ⟨_, rfl⟩
            have hpk : pickN 10 f hsE = some fr := by rw [hpkE, hfr, nxtW, if_neg (by omega)]
            have hat : ∃ (k : Nat) (q1 : Tn), fr.At = (k : Int) ∧ fr.ts[k]? = some q1 ∧ q1.N = [98] := by
              rw [hfr, preW, if_neg (by omega), if_neg (by omega)]
              exact ⟨1, ⟨[98], (n : Int), _⟩, rfl, rfl, rfl⟩
            have Hfr := Lib.hid hfr
            clear hfr hpkE
            have HG1 := Lib.hid (pickN_spec (HCE.out) 10 f fr HG.out hpk).1
            obtain ⟨k, q1, p4, p5, hN⟩ := hat
            have Hp4 := Lib.hid p4
            have Hp5 := Lib.hid p5
            have HqN := Lib.hid hN
            have Hpk1 := Lib.hid hpk
            have Hnm := Lib.hid (show f.ts.map Tn.N = [[97], [98]] by rw [HN.out]; exact preW_names 1 n _)
            clear p4 p5 hN hpk
            have bH := below_alloc1 wr (.cells #[.string (bstr [97]), .int .i64 1, .string (bstr [98]), .int .i64 1] 45)
            have sH : Sl (wr.alloc (.cells #[.string (bstr [97]), .int .i64 1, .string (bstr [98]), .int .i64 1] 45)) 2 (some ⟨wr.heap.size, 0, none⟩) 2 2 (flatH hsE) :=
              ⟨(sl_cells wr [.string (bstr [97]), .int .i64 1, .string (bstr [98]), .int .i64 1] 45).cells, rfl, Nat.le_refl _, fun h => by cases h⟩
            have sF7 := sF.below bH
            have oF7 := oF.below bH
            have oA7 := oA.below bH
            have oB7 := oB.below bH
            have Hgw := Lib.hid (show w1.heap.size < (wr.alloc (.cells #[.string (bstr [97]), .int .i64 1, .string (bstr [98]), .int .i64 1] 45)).heap.size from (World.ownsRow.lt oF7 w1.heap.size rfl).2)
            have bG := bF.trans (bH.mono bF.size)
            have y0 := World.ownsRow.cellAt oF 0 (by omega)
            have y1 := World.ownsRow.cellAt oF 1 (by omega)
            have y2 := World.ownsRow.cellAt oF 2 (by omega)
            have y3 := World.ownsRow.cellAt oF 3 (by omega)
            simp only [frC, List.getElem?_cons_succ, List.getElem?_cons_zero] at y0 y1 y2 y3
            have u0 := World.ownsRow.cellAt oA 0 (by omega)
            have u1 := World.ownsRow.cellAt oA 1 (by omega)
            have v0 := World.ownsRow.cellAt oB 0 (by omega)
            have v1 := World.ownsRow.cellAt oB 1 (by omega)
            simp only [List.getElem?_cons_succ, List.getElem?_cons_zero] at u0 u1 v0 v1
            clear sF bH bF
            go_wp2_with fail
            refine (pick_any f fr hsE 10 k q1 A (some ⟨wr.heap.size, 0, none⟩) cc 2 2 _ sF7 sH (by omega) HG.out (HME.out f.ts Hnm.out) (by decide) Hpk1.out Hp4.out Hp5.out).mono ?_; rintro x w7 ⟨A7, c7, rfl, s7, b7, f7⟩
            have hsz7 := bG.size
            have oF8 := oF7.below b7
            have oA8 := oA7.below b7
            have oB8 := oB7.below b7
            have bH := bG.trans (b7.mono bG.size)
            clear y0 y1 y2 y3 u0 u1 v0 v1 sF7 sH oF7 oF oA oB oA7 oB7 b7 bG
            have o8 : Own w7.heap.size 36 1 (w7.alloc (.cells (frC fr.Q A7 fr.ts.length c7 fr.At fr.H).toArray 36)) (some ⟨w7.heap.size, 0, none⟩) 4 4 (frC fr.Q A7 fr.ts.length c7 fr.At fr.H) := new_own w7 (frC fr.Q A7 fr.ts.length c7 fr.At fr.H) 36 4 rfl (by unfold maxLen; omega)
            have b8 := below_alloc1 w7 (.cells (frC fr.Q A7 fr.ts.length c7 fr.At fr.H).toArray 36)
            have oF9 := oF8.below b8
            have oA9 := oA8.below b8
            have oB9 := oB8.below b8
            have s9 := s7.below b8
            have bI := bH.trans (b8.mono bH.size)
            simp only [frC] at o8 b8 oF9 oA9 oB9 s9 bI
            clear b8 oF8 oA8 oB8 s7 bH
            unfold frV
            go_upto_region 19 with fail
            generalize w7.alloc (.cells #[.int .i64 fr.Q, .slice A7 fr.ts.length c7, .int .i64 fr.At, .bool fr.H] 36) = w8 at *
            have z0 := World.ownsRow.cellAt o8 0 (by omega)
            have z1 := World.ownsRow.cellAt o8 1 (by omega)
            have z2 := World.ownsRow.cellAt o8 2 (by omega)
            have z3 := World.ownsRow.cellAt o8 3 (by omega)
            simp only [List.getElem?_cons_succ, List.getElem?_cons_zero] at z0 z1 z2 z3
            have y0 := World.ownsRow.cellAt oF9 0 (by omega)
            have y1 := World.ownsRow.cellAt oF9 1 (by omega)
            have y2 := World.ownsRow.cellAt oF9 2 (by omega)
            have y3 := World.ownsRow.cellAt oF9 3 (by omega)
            simp only [List.getElem?_cons_succ, List.getElem?_cons_zero] at y0 y1 y2 y3
            have x0 := World.ownsRow.frozenAt oF9 0
            have x1 := World.ownsRow.frozenAt oF9 1
            have x2 := World.ownsRow.frozenAt oF9 2
            have x3 := World.ownsRow.frozenAt oF9 3
            have st := stored4 oF9 (.int .i64 fr.Q) (.slice A7 fr.ts.length c7) (.int .i64 fr.At) (.bool fr.H)
            have s10 := s9.grown st.2 (fun a ha he => by
              have e1 : a.block = w1.heap.size := Option.some.inj he
              have := f7 a ha
              have := Hgw.out
              omega)
            have bJ := bI.grown st.2 bI.size (fun j hj => by cases hj; omega)
            have oA10 := Own.apart oA9 st.2 (by omega)
            have oB10 := Own.apart oB9 st.2 (by omega)
            have oK := st.1
            have hN := HqN.out
            clear st s9 bI o8 oF9 oA9 oB9
            obtain ⟨N1, W1, L1⟩ := q1
            simp only at hN
            subst hN
            rw [show bstr [98] = ({ data := #[98] } : ByteArray) from rfl]
            go_wp2_with fail
            go_roundw
            case rel => exact ⟨i + 1, tt + 1, fr, A7, c7, by omega, by omega, by omega, by go_num, by congr 1; omega, oK, s10, oA10, oB10, HG1, Hfr, bJ⟩
            case measure => simp [intOf]; omega
        · obtain rfl : i = 60 := by omega
          go_wp2_with (go_at_call 23; refine (awake17_any _).mono ?_; rintro x w6 ⟨rfl, hn6⟩)
          go_ret
          exact ⟨rfl, bF.trans (hn6.mono bF.size)⟩
theorem walk_empty' (a0 a1 : Int) (w : World) (h0 : (Lit.int .u8 a0).wf = true) (h1 : (Lit.int .u8 a1).wf = true) :
    Calls Try.prog 7 #[.int .u8 a0, .int .u8 a1] w fun e w' => e = .returned (.bool true) ∧ Below w.heap.size w w' := by
  simp [Lit.wf, IntKind.min, IntKind.max, IntKind.signed, IntKind.bits] at h0 h1
  obtain ⟨kv, rfl⟩ := Int.eq_ofNat_of_zero_le (show 0 ≤ a0 by omega)
  obtain ⟨ev, rfl⟩ := Int.eq_ofNat_of_zero_le (show 0 ≤ a1 by omega)
  exact walk_empty kv ev w (by omega) (by omega)
end Go.Proofs.Ytphjmbhlokkdiaa
