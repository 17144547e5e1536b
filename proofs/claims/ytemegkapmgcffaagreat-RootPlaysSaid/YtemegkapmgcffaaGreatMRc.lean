import Derived.Test.YtemegkapmgcffaaGreatMRb
import Derived.Test.YtemegkapmgcffaaGreatMWa
import Derived.BigQuiet
import Derived.Deep.QuietTactic
import Derived.Test.YtemegkapmgcffaaGreatMRa
/- Roots: is. -/
namespace Go.Proofs.YtemegkapmgcffaaGreat
open Go.RowKit
set_option linter.unusedSimpArgs false
set_option linter.unusedVariables false

theorem conv_slR (w : World) (l : List UInt8) (hl : l.length ≤ 1000000) : Sl (Lib.bytesWorld w 5 (bstr l)) 1 (some ⟨w.heap.size, 0, none⟩) l.length (grownCap w l.length 0 5) (bytesV l) ∧ Below w.heap.size w (Lib.bytesWorld w 5 (bstr l)) := by
  have hd : (bstr l).data.toList = l := rfl
  have hs : (bstr l).size = l.length := rfl
  refine ⟨⟨fun j u hj => ⟨_, rfl, ?_⟩, by simp [bytesV], grownCap_ge _ _ _ _, fun h => by cases h⟩, ⟨rfl, rfl, rfl, by rw [Lib.bytesWorld_size]; omega, fun k hk => Lib.bytesWorld_at_old w _ _ k hk⟩⟩
  rw [add_plain]
  obtain ⟨x, hx, rfl⟩ : ∃ x, l[j]? = some x ∧ u = byteV x := by
    unfold bytesV at hj
    rw [List.getElem?_map, Option.map_eq_some_iff] at hj
    obtain ⟨x, h1, h2⟩ := hj
    exact ⟨x, h1, h2.symm⟩
  have hlt := (List.getElem?_eq_some_iff.1 hx).1
  rw [Lib.bytesWorld_cell w _ _ j (by rw [hs]; exact hlt), hd]
  simp [byteV, List.getD_eq_getElem?_getD, hx]
def isRB (D : Dk) (s b : Int) (t : List UInt8) : Bool :=
  decide ((readRD D).2.2 = 0) && (decide ((readRD D).2.1 = decide (0 < s)) && (decide ((readRD D).1.s = s) && (decide ((readRD D).1.b = b) && ((readRD D).1.x == t))))
set_option maxRecDepth 100000 in
set_option maxHeartbeats 8000000 in
theorem is_any {W w : World} {p : Nat} {D : Dk} {L : List Rsl} (h : DskL W w p D L) (s b : Int) (t : List UInt8) (ht : t.length ≤ 1000000) :
    Calls Tryz.prog 63 #[.pointer (some ⟨p, 0, none⟩), .int .i64 s, .int .i64 b, .string (bstr t)] w fun x w' => x = .returned (.bool (isRB D s b t)) ∧ DskL W w' p D L := by
  obtain ⟨q, ok, e, hrd⟩ : ∃ q ok e, readRD D = (q, ok, e) := ⟨_, _, _, rfl⟩
  have HI := Lib.hid (show isRB D s b t = (decide (e = 0) && (decide (ok = decide (0 < s)) && (decide (q.s = s) && (decide (q.b = b) && (q.x == t))))) by unfold isRB; rw [hrd])
  have hc := rread_l h hrd
  clear h hrd
  go_enter Tryz.func63, Tryz.ntmps63
  go_wp2_with fail
  refine hc.mono ?_; rintro x w1 ⟨A, c, rfl, h1⟩
  clear hc
  have q0 := box_cellsR w1 [.int .i64 q.s, .int .i64 q.b, .slice A q.x.length c] 36 0 _ rfl
  have q1 := box_cellsR w1 [.int .i64 q.s, .int .i64 q.b, .slice A q.x.length c] 36 1 _ rfl
  have q2 := box_cellsR w1 [.int .i64 q.s, .int .i64 q.b, .slice A q.x.length c] 36 2 _ rfl
  have h2 := h1.below (below_alloc1 w1 (.cells #[.int .i64 q.s, .int .i64 q.b, .slice A q.x.length c] 36))
  go_upto_region 2 with fail
  obtain ⟨W2, hW2⟩ : ∃ W2, W2 = w1.alloc (.cells #[.int .i64 q.s, .int .i64 q.b, .slice A q.x.length c] 36) := ⟨_, rfl⟩
  have hT2 : (w1.alloc (.cells [Value.int .i64 q.s, .int .i64 q.b, .slice A q.x.length c].toArray 36)) = W2 := hW2.symm
  rw [hT2] at q0 q1 q2
  rw [← hW2] at h2 ⊢
  have H2 := Lib.hid h2
  clear h1 h2 hW2 hT2
  by_cases he : e = 0
  · subst he
    by_cases ho : ok = decide (0 < s)
    · have hz : (bstr t).size = t.length := rfl
      subst ho
      go_wp2_with fail
      rw [Lib.run_convert_string_bytes (P := Tryz.prog) _ 9 34 5 _ Tryz.underlying9 Tryz.underlying34 Tryz.underlying5]
      simp only [Result.andThen, Oper.upon]
      have hcs := conv_slR W2 t ht
      obtain ⟨wc, hwc⟩ : ∃ wc, wc = Lib.bytesWorld W2 5 (bstr t) := ⟨_, rfl⟩
      rw [← hwc] at hcs
      rw [← hwc, hz]
      clear hwc
      have H3 := Lib.hid (H2.out.below hcs.2)
      have hsl := H3.out.sl (List.mem_cons_self ..)
      have hsr := sameRoot_any q.s q.b s b A (some ⟨W2.heap.size, 0, none⟩) q.x.length c t.length (grownCap W2 t.length 0 5) q.x t wc hsl hcs.1
      clear hcs hsl q0 q1 q2
      go_wp2_with fail
      refine hsr.mono ?_; rintro x w4 ⟨rfl, b4⟩
      have H4 := Lib.hid (H3.out.below b4)
      have HF := Lib.hid (show isRB D s b t = (decide (q.s = s) && (decide (q.b = b) && (q.x == t))) by rw [HI.out]; simp)
      clear hsr b4
      go_wp2_with fail
      go_ret
      exact ⟨by rw [HF.out]; rfl, H4.out.sub (fun ρ hr => List.mem_cons_of_mem _ hr)⟩
    · have ho2 : (ok == decide (0 < s)) = false := by simpa using ho
      have HF := Lib.hid (show isRB D s b t = false by rw [HI.out]; simp [ho])
      clear ho
      go_wp2_with fail
      go_ret
      exact ⟨by rw [HF.out]; rfl, H2.out.sub (fun ρ hr => List.mem_cons_of_mem _ hr)⟩
  · have he2 : (e == 0) = false := by simpa using he
    have HF := Lib.hid (show isRB D s b t = false by rw [HI.out]; simp [he])
    clear he
    go_wp2_with fail
    go_ret
    exact ⟨by rw [HF.out]; rfl, H2.out.sub (fun ρ hr => List.mem_cons_of_mem _ hr)⟩
end Go.Proofs.YtemegkapmgcffaaGreat

/- Roots: the chapter's examples, plain. -/
namespace Go.Proofs.YtemegkapmgcffaaGreat
open Go.RowKit
set_option linter.unusedSimpArgs false
set_option linter.unusedVariables false

deriving instance DecidableEq for Fl
deriving instance DecidableEq for Dk
deriving instance DecidableEq for Rt
def rl1 : List UInt8 := [5, 1, 7, 2, 97, 98, 186, 75, 104, 232, 165]
def rl2 : List UInt8 := [3, 2, 9, 0, 45, 7, 182, 53, 165]
def ra0 : Dk := ⟨1000, -1, false, []⟩
def ra1 : Dk := ⟨1000, -1, false, [⟨rn1, rl1, 11⟩]⟩
def ra2 : Dk := ⟨1000, -1, false, [⟨rn0, rl2, 9⟩, ⟨rn1, rl1, 11⟩]⟩
theorem rl1_bytes : bytesR 1 7 [97, 98] = (rl1, 0) := by
  unfold bytesR
  rw [if_pos (by decide)]
  have h : rootB (1 : Int).toNat (7 : Int).toNat [97, 98] = [1, 7, 2, 97, 98] := by
    show uv 1 ++ (uv 7 ++ (uv 2 ++ [97, 98])) = _
    rw [uv_small 1 (by decide), uv_small 7 (by decide), uv_small 2 (by decide)]
    rfl
  rw [h]
  unfold frm
  rw [show ([1, 7, 2, 97, 98] : List UInt8).length = 5 from rfl, uv_small 5 (by decide)]
  decide +kernel
theorem rl2_bytes : bytesR 2 9 [] = (rl2, 0) := by
  unfold bytesR
  rw [if_pos (by decide)]
  have h : rootB (2 : Int).toNat (9 : Int).toNat [] = [2, 9, 0] := by
    show uv 2 ++ (uv 9 ++ (uv 0 ++ [])) = _
    rw [uv_small 2 (by decide), uv_small 9 (by decide), uv_small 0 (by decide)]
    rfl
  rw [h]
  unfold frm
  rw [show ([2, 9, 0] : List UInt8).length = 3 from rfl, uv_small 3 (by decide)]
  decide +kernel
theorem writeF_at {D : Dk} {q : Rt} {b : Int} {x bs : List UInt8} (hd : D.dark = false) (hq : rootD D = q) (hb : bytesR (q.s + 1) b x = (bs, 0)) :
    writeF D b x = if (readD D rnw).2 = 0 then (if (removeD D rnw).1 ≠ 0 then ((removeD D rnw).2, rt0, (removeD D rnw).1) else putD (removeD D rnw).2 (q.s + 1) b x bs) else putD D (q.s + 1) b x bs := by
  unfold writeF
  rw [if_neg (by rw [hd]; simp), hq, hb]
  simp
set_option maxRecDepth 100000 in
theorem ra0_root : rootD ra0 = rt0 := by decide +kernel
set_option maxRecDepth 100000 in
theorem ra1_root : rootD ra1 = ⟨1, 7, [97, 98]⟩ := by decide +kernel
set_option maxRecDepth 100000 in
theorem ra2_root : rootD ra2 = ⟨2, 9, []⟩ := by decide +kernel
set_option maxRecDepth 100000 in
theorem ra0_write : writeF ra0 7 [97, 98] = (ra1, ⟨1, 7, [97, 98]⟩, 0) := by
  rw [writeF_at (q := rt0) rfl ra0_root rl1_bytes]
  decide +kernel
set_option maxRecDepth 100000 in
theorem ra1_write : writeF ra1 9 [] = (ra2, ⟨2, 9, []⟩, 0) := by
  rw [writeF_at (q := ⟨1, 7, [97, 98]⟩) rfl ra1_root rl2_bytes]
  decide +kernel
theorem ra0_is : isRB ra0 0 0 [] = true := by
  unfold isRB readRD
  rw [ra0_root]
  decide +kernel
theorem ra2_is : isRB ra2 2 9 [] = true := by
  unfold isRB readRD
  rw [ra2_root]
  decide +kernel
theorem ra1_is : isRB ra1 1 7 [97, 98] = true := by
  unfold isRB readRD
  rw [ra1_root]
  decide +kernel
set_option maxRecDepth 100000 in
theorem ra2_remove : removeD ra2 rn0 = (0, ra1) := by decide +kernel
set_option maxRecDepth 100000 in
theorem rl1_get : fg rl1 0 = ([1, 7, 2, 97, 98], 11, 0) := by decide +kernel
end Go.Proofs.YtemegkapmgcffaaGreat

/- SameTexts of two that are the same (out of XSame). -/
namespace Go.Proofs.YtemegkapmgcffaaGreat
open Go.RowKit
set_option linter.unusedSimpArgs false
set_option linter.unusedVariables false

def strsL (l : List (List UInt8)) : List Value := l.map fun s => .string (bstr s)
theorem slT_cell {w : World} {A : Option Addr} {m d : Nat} {l : List (List UInt8)} (h : Sl w 1 A m d (strsL l)) {k : Nat} {x : List UInt8} (hk : l[k]? = some x) : ∃ ad, A = some ad ∧ w.cell? (ad.add k) = some (.string (bstr x)) :=
  h.cells k _ (by rw [strsL, List.getElem?_map, hk]; rfl)
theorem slT_len {w : World} {A : Option Addr} {m d : Nat} {l : List (List UInt8)} (h : Sl w 1 A m d (strsL l)) : l.length = m := by have := h.len; simpa [strsL] using this
set_option maxRecDepth 100000 in
set_option maxHeartbeats 4000000 in
theorem sameTexts_any (A B : Option Addr) (m d d2 : Nat) (l : List (List UInt8)) (w : World) (hs : Sl w 1 A m d (strsL l)) (ht : Sl w 1 B m d2 (strsL l)) (hm : m ≤ 1000000) :
    Calls Tryz.prog 65 #[.slice A m d, .slice B m d2] w fun e w' => e = .returned (.bool true) ∧ Below w.heap.size w w' := by
  have hl := slT_len hs
  go_enter Tryz.func65, Tryz.ntmps65
  go_wp2_with fail
  go_loopw [8] (fun s5 wx => ∃ (k : Nat), k ≤ m ∧ s5 = .int .i64 (k : Int) ∧ Hid (Below w.heap.size w wx)) (fun iv _ => m - (intOf iv).toNat)
  case atStart => exact ⟨0, by omega, rfl, Lib.hid (Below.refl _ _)⟩
  case round =>
    obtain ⟨k, hk, rfl, HB⟩ := hrel
    rename World => wx
    by_cases hkm : k < m
    · obtain ⟨x, hx⟩ : ∃ x, l[k]? = some x := ⟨_, List.getElem?_eq_getElem (by omega)⟩
      obtain ⟨ad1, h11, h12⟩ := slT_cell (hs.below HB.out) hx
      obtain ⟨ad2, h21, h22⟩ := slT_cell (ht.below HB.out) hx
      subst h11; subst h21
      have hin : (0 : Int) ≤ (k : Int) ∧ (k : Int) < (m : Int) := by omega
      have hne : ¬ k = m := by omega
      have hd : decide ((k : Int) = (m : Int)) = false := by simp; omega
      have hd2 : ((k : Int) == (m : Int)) = false := by simp; omega
      clear hx
      go_upto_region 4 with fail
      go_quiet (fail)
      go_wp2_with fail
      go_roundw
      case rel => exact ⟨k + 1, by omega, by go_num, Lib.hid (below_drewN HB.out _)⟩
      case measure => simp [intOf]; omega
    · obtain rfl : k = m := by omega
      go_wp2_with fail
      go_ret
      exact ⟨rfl, HB.out⟩
end Go.Proofs.YtemegkapmgcffaaGreat

/- Roots: the chapter's examples, walked. -/
namespace Go.Proofs.YtemegkapmgcffaaGreat
open Go.RowKit
set_option linter.unusedSimpArgs false
set_option linter.unusedVariables false

theorem DskL.row {W w w' : World} {p : Nat} {D : Dk} {L : List Rsl} {ρ : Rsl} (h : DskL W w p D L) (hb : Below w.heap.size w w') (hs : Sl w' 1 ρ.A ρ.n ρ.c (bytesV ρ.x)) (hA : ∀ a, ρ.A = some a → a.block = w.heap.size) (hw : w.heap.size < w'.heap.size) : DskL W w' p D (ρ :: L) := by
  obtain ⟨F, h1, h2, h3⟩ := h
  refine ⟨F, h1.below hb, h2.trans (hb.mono h2.size), fun σ hr => ?_⟩
  rcases List.mem_cons.1 hr with h5 | h5
  · subst h5
    exact ⟨hs, fun hne a ha => ⟨by rw [hA a ha]; exact hw, fun hf => by have := (h1.bound _ hf).2; rw [hA a ha] at this; omega⟩⟩
  · exact (h3 σ h5).below hb
theorem DskL.lit {W w : World} {p : Nat} {D : Dk} {L : List Rsl} (h : DskL W w p D L) (l : List UInt8) (fr : Nat × Nat) : DskL W (w.alloc (.cells (bytesV l).toArray 5 fr)) p D (⟨some ⟨w.heap.size, 0, none⟩, l.length, l.length, l⟩ :: L) :=
  h.row (below_alloc1 _ _) (sl_lit_mark w l 5 fr) (fun a ha => by cases ha; rfl) (by simp)
theorem DskL.nilrow {W w : World} {p : Nat} {D : Dk} {L : List Rsl} (h : DskL W w p D L) : DskL W w p D (⟨none, 0, 0, []⟩ :: L) := by
  obtain ⟨F, h1, h2, h3⟩ := h
  refine ⟨F, h1, h2, fun σ hr => ?_⟩
  rcases List.mem_cons.1 hr with h5 | h5
  · subst h5
    exact ⟨Sl.nil _ _, fun h => absurd rfl h⟩
  · exact h3 σ h5
set_option maxRecDepth 100000 in
set_option maxHeartbeats 16000000 in
theorem awake6_any (W : World) : Calls Tryz.prog 22 #[] W fun x w' => x = .returned (.bool true) ∧ Below W.heap.size W w' := by
  have hnew : newD 1000 = ra0 := by rfl
  have kc := fun (w : World) (C : Array Value) (n c : Nat) => Lib.run_convert_bytes_const (P := Tryz.prog) w 34 5 C n c Tryz.underlying34 Tryz.underlying5
  go_enter Tryz.func22, Tryz.ntmps22
  go_wp2_with fail
  refine (new_dsk (Below.refl _ _) (by decide)).mono ?_; rintro x w0 ⟨p, rfl, h0⟩
  rw [hnew] at h0
  have h1 := DskL.of h0
  clear h0
  go_wp2_with fail
  refine (is_any h1 0 0 [] (by decide)).mono ?_; rintro x w1 ⟨rfl, h2⟩
  rw [ra0_is]
  clear h1
  go_wp2_with fail
  have h3 := h2.lit [97, 98] (2, 3)
  refine (rwrite_l h3 0 7 (List.mem_cons_self ..) (by show 2 ≤ 100000000; decide) ra0_write).mono ?_; rintro x w2 ⟨A2, c2, rfl, h4⟩
  clear h2 h3
  have q0 := box_cellsR w2 [.int .i64 1, .int .i64 7, .slice A2 2 c2] 36 0 _ rfl
  have h5 := h4.below (below_alloc1 w2 (.cells #[.int .i64 1, .int .i64 7, .slice A2 2 c2] 36))
  go_upto_region 5 with fail
  obtain ⟨W3, hW3⟩ : ∃ W3, W3 = w2.alloc (.cells #[.int .i64 1, .int .i64 7, .slice A2 2 c2] 36) := ⟨_, rfl⟩
  have hT3 : (w2.alloc (.cells [Value.int .i64 1, .int .i64 7, .slice A2 2 c2].toArray 36)) = W3 := hW3.symm
  rw [hT3] at q0
  rw [← hW3] at h5 ⊢
  have h6 := DskL.of h5.dsk
  clear h4 h5 hW3 hT3
  go_wp2_with fail
  refine (size_dsk (nm := rn1) (n := 11) h6.dsk (by rfl) (by decide +kernel)).mono ?_; rintro x w4 ⟨rfl, -, h7⟩
  clear h6 q0
  go_wp2_with fail
  refine (size_dsk (nm := rn0) (n := 0) h7 (by rfl) (by decide +kernel)).mono ?_; rintro x w5 ⟨rfl, -, h8⟩
  have h9 := (DskL.of h8).nilrow
  clear h7 h8
  go_wp2_with fail
  refine (rwrite_l h9 0 9 (List.mem_cons_self ..) (by decide) ra1_write).mono ?_; rintro x w6 ⟨A6, c6, rfl, h10⟩
  clear h9
  have q0 := box_cellsR w6 [.int .i64 2, .int .i64 9, .slice A6 0 c6] 36 0 _ rfl
  have h11 := h10.below (below_alloc1 w6 (.cells #[.int .i64 2, .int .i64 9, .slice A6 0 c6] 36))
  go_upto_region 7 with fail
  obtain ⟨W7, hW7⟩ : ∃ W7, W7 = w6.alloc (.cells #[.int .i64 2, .int .i64 9, .slice A6 0 c6] 36) := ⟨_, rfl⟩
  have hT7 : (w6.alloc (.cells [Value.int .i64 2, .int .i64 9, .slice A6 0 c6].toArray 36)) = W7 := hW7.symm
  rw [hT7] at q0
  rw [← hW7] at h11 ⊢
  have h12 := DskL.of h11.dsk
  clear h10 h11 hW7 hT7
  go_wp2_with fail
  refine (is_any h12 2 9 [] (by decide)).mono ?_; rintro x w8 ⟨rfl, h13⟩
  rw [ra2_is]
  clear h12 q0
  go_wp2_with fail
  refine (list_dsk (n := 2) (ns := [.string (bstr rn0), .string (bstr rn1)]) h13.dsk (by rfl) (by rfl)).mono ?_; rintro x w9 ⟨A9, c9, rfl, o9, -, h14⟩
  clear h13
  go_wp2_with fail
  have sT := sl_cells w9 [.string (bstr rn0), .string (bstr rn1)] 9
  have bT := below_alloc1 w9 (.cells [Value.string (bstr rn0), .string (bstr rn1)].toArray 9)
  refine (sameTexts_any A9 (some ⟨w9.heap.size, 0, none⟩) 2 c9 2 [rn0, rn1] _ (o9.sl.below bT) sT (by omega)).mono ?_; rintro x w10 ⟨rfl, b10⟩
  have h15 := (h14.below bT).below b10
  clear o9 sT bT b10 h14
  go_wp2_with fail
  refine (remove_dsk (r := 0) (nm := rn0) (D' := ra1) h15 (by rfl) ra2_remove).mono ?_; rintro x w11 ⟨rfl, h16⟩
  clear h15
  go_wp2_with fail
  have h17 := (DskL.of h16).lit [97, 98] (2, 3)
  have hby := Bytes_any 1 7 (some ⟨w11.heap.size, 0, none⟩) 2 2 [97, 98] _ (h17.sl (List.mem_cons_self ..)) (fun _ a ha => by cases ha; simp)
  rw [rl1_bytes] at hby
  refine hby.mono ?_; rintro x w12 ⟨A12, c12, rfl, o12, b12⟩
  have h18 := h17.dsk.below b12
  clear h16 h17 hby b12
  have hg := get_any A12 11 c12 rl1 0 w12 o12.sl (by omega)
  rw [rl1_get] at hg
  go_wp2_with fail
  refine hg.mono ?_; rintro x w13 ⟨v, rfl, o13, b13⟩
  obtain ⟨A13, c13, rfl, s13, o13b⟩ := own_form o13
  have h19 := (DskL.of h18).new b13 (ρ := ⟨A13, 5, c13, [1, 7, 2, 97, 98]⟩) (Nat.le_refl _) o13b
  clear hg o12 o13 o13b s13 h18 b13
  go_wp2_with fail
  refine (is_any h19 1 7 [97, 98] (by decide)).mono ?_; rintro x w14 ⟨rfl, h20⟩
  rw [ra1_is]
  go_wp2_with fail
  have h21 := h20.lit [1, 7, 2, 97, 98] (0, 0)
  have sa := h21.sl (List.mem_cons_of_mem _ (List.mem_cons_self ..))
  have sb := h21.sl (List.mem_cons_self ..)
  refine (sameBytes_any A13 (some ⟨w14.heap.size, 0, none⟩) 5 c13 5 5 [1, 7, 2, 97, 98] [1, 7, 2, 97, 98] _ sa sb).mono ?_; rintro x w15 ⟨rfl, rfl⟩
  go_wp2_with fail
  go_ret
  exact ⟨by rfl, h21.bel⟩
end Go.Proofs.YtemegkapmgcffaaGreat

/- Roots: what is written is read; what is read is what would be written (plain). -/
namespace Go.Proofs.YtemegkapmgcffaaGreat
open Go.RowKit
set_option linter.unusedSimpArgs false
set_option linter.unusedVariables false

theorem parse_frm {s b : Nat} {x : List UInt8} (hr : rightR (s : Int) (b : Int) x.length = true) : parseF (frm (rootB s b x)) = (⟨s, b, x⟩, 0) := by
  have h := (rightR_iff _ _ _).1 hr
  have g1 := uv_len_ten s (by omega)
  have g2 := uv_len_ten b (by omega)
  have g3 := uv_len_ten x.length (by omega)
  have g4 := uv_pos s
  have hl : (rootB s b x).length = (uv s).length + ((uv b).length + ((uv x.length).length + x.length)) := by
    unfold rootB
    simp only [List.length_append]
  have hfg : fg (frm (rootB s b x)) 0 = (rootB s b x, (frm (rootB s b x)).length, 0) := by
    have := fg_frm [] (rootB s b x) [] 0 rfl (by omega) (by omega)
    simpa using this
  have hi : gu (rootB s b x) 0 = (s, (uv s).length, 0) := by
    have := gu_uv [] (uv b ++ (uv x.length ++ x)) s 0 (by omega) rfl
    simpa [rootB] using this
  have hj : gu (rootB s b x) ((uv s).length : Nat) = (b, (uv s).length + (uv b).length, 0) := gu_uv (uv s) (uv x.length ++ x) b _ (by omega) rfl
  have hk0 : gu (rootB s b x) (((uv s).length + (uv b).length : Nat) : Int) = (x.length, (uv s).length + (uv b).length + (uv x.length).length, 0) := by
    have := gu_uv (uv s ++ uv b) x x.length (((uv s).length + (uv b).length : Nat) : Int) (by omega) (by simp)
    rw [List.append_assoc, List.length_append] at this
    exact this
  have hd : (rootB s b x).drop ((uv s).length + (uv b).length + (uv x.length).length) = x := by
    unfold rootB
    rw [← List.append_assoc, ← List.append_assoc, List.drop_left' (by simp only [List.length_append])]
  have hk : gb (rootB s b x) (((uv s).length + (uv b).length : Nat) : Int) 524288 = (x, (rootB s b x).length, 0) := by
    unfold gb
    simp only [hk0]
    rw [if_neg (by simp), if_neg (by omega), if_neg (by rw [hl]; omega), hd, List.take_length]
    congr 2
    omega
  unfold parseF
  simp only [hfg, hi, hj, hk]
  rw [if_pos]
  refine ⟨⟨by trivial, by trivial⟩, ⟨by trivial, by omega⟩, ⟨by trivial, by omega⟩, by trivial, by trivial, hr⟩
theorem bytes_parse {s b : Int} {x bs : List UInt8} (h : bytesR s b x = (bs, 0)) : parseF bs = (⟨s, b, x⟩, 0) := by
  unfold bytesR at h
  split at h
  · rename_i hr
    have h2 := (rightR_iff _ _ _).1 hr
    simp only [Prod.mk.injEq, and_true] at h
    subst h
    have eS : ((s.toNat : Nat) : Int) = s := by omega
    have eB : ((b.toNat : Nat) : Int) = b := by omega
    have := parse_frm (s := s.toNat) (b := b.toNat) (x := x) (by rw [eS, eB]; exact hr)
    rw [eS, eB] at this
    exact this
  · simp at h
end Go.Proofs.YtemegkapmgcffaaGreat

/- Roots: what is read is what would be written (plain). -/
namespace Go.Proofs.YtemegkapmgcffaaGreat
open Go.RowKit
set_option linter.unusedSimpArgs false
set_option linter.unusedVariables false

theorem gu_backA {l : List UInt8} {a v e : Nat} (h : gu l (a : Nat) = (v, e, 0)) : a ≤ e ∧ e ≤ l.length ∧ l.drop a = uv v ++ l.drop e := by
  have hn := gu_next l (a : Nat)
  rw [h] at hn
  simp only at hn
  unfold gu at h
  split at h
  · simp at h
  · rename_i h0
    rw [Int.toNat_natCast] at h
    split at h
    · rename_i h1
      obtain ⟨m, _, g1, g2, _⟩ := guL_back (l.drop a) 0 0 (by omega) h1
      simp only [Nat.sub_zero, Nat.pow_zero, Nat.mul_one, Nat.zero_add] at g1 g2
      simp only [Prod.mk.injEq, and_true] at h
      obtain ⟨h2, h3⟩ := h
      refine ⟨by omega, hn, ?_⟩
      rw [← h2, g1, ← g2, ← h3, ← List.drop_drop, List.take_append_drop]
    · rename_i h1
      simp only [Prod.mk.injEq] at h
      exact absurd h.2.2 h1
theorem parse_bytes {l : List UInt8} {q : Rt} (h : parseF l = (q, 0)) : bytesR q.s q.b q.x = (l, 0) := by
  obtain ⟨B, N, E, hG⟩ : ∃ B N E, fg l 0 = (B, N, E) := ⟨_, _, _, rfl⟩
  obtain ⟨i, iN, iE, hI⟩ : ∃ i iN iE, gu B 0 = (i, iN, iE) := ⟨_, _, _, rfl⟩
  obtain ⟨j, jN, jE, hJ⟩ : ∃ j jN jE, gu B iN = (j, jN, jE) := ⟨_, _, _, rfl⟩
  obtain ⟨m, mN, mE, hM⟩ : ∃ m mN mE, gu B jN = (m, mN, mE) := ⟨_, _, _, rfl⟩
  obtain ⟨k, kN, kE, hK⟩ : ∃ k kN kE, gb B jN 524288 = (k, kN, kE) := ⟨_, _, _, rfl⟩
  unfold parseF at h
  simp only [hG, hI, hJ, hK] at h
  split at h
  · rename_i hc
    obtain ⟨⟨rfl, rfl⟩, ⟨rfl, _⟩, ⟨rfl, _⟩, rfl, hkN, hr⟩ := hc
    simp only [Prod.mk.injEq, and_true] at h
    subst h
    obtain ⟨_, _, _, hf⟩ := fg_back hG
    rw [List.take_length] at hf
    have b1 := gu_backA (a := 0) hI
    have b2 := gu_backA hJ
    unfold gb at hK
    simp only [hM] at hK
    split at hK
    · rename_i h1
      simp only [Prod.mk.injEq] at hK
      exact absurd hK.2.2 h1
    · rename_i h1
      have h1' : mE = 0 := by omega
      subst h1'
      have b3 := gu_backA hM
      split at hK
      · simp at hK
      · split at hK
        · simp at hK
        · rename_i h2 h3
          simp only [Prod.mk.injEq, and_true] at hK
          obtain ⟨rfl, rfl⟩ := hK
          have hm : ((B.drop mN).take m).length = m := by simp; omega
          have hall : (B.drop mN).take m = B.drop mN := List.take_of_length_le (by simp; omega)
          have hB : rootB i j ((B.drop mN).take m) = B := by
            unfold rootB
            rw [hm, hall, ← b3.2.2, ← b2.2.2]
            have := b1.2.2
            rw [List.drop_zero] at this
            exact this.symm
          unfold bytesR
          simp only
          rw [if_pos hr, Int.toNat_natCast, Int.toNat_natCast, hB, hf]
  · simp at h
end Go.Proofs.YtemegkapmgcffaaGreat
