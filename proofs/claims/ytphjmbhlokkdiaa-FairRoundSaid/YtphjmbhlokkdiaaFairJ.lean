import Derived.Test.YtphjmbhlokkdiaaFairI
namespace Go.Proofs.Ytphjmbhlokkdiaa
open Go.RowKit Go.Maps Go.WideShapes Go.WideMaps
set_option linter.unusedSimpArgs false
set_option linter.unusedVariables false

theorem placeI_mem {ts : List Tn} {s : List UInt8} (h : s ∈ ts.map Tn.N) : 0 ≤ placeI ts s := by
  unfold placeI
  split
  · omega
  · rename_i hx
    rw [List.findIdx?_eq_none_iff] at hx
    obtain ⟨t, ht, he⟩ := List.mem_map.1 h
    have := hx t ht
    simp [he] at this
theorem pickN_spec {hs : List Hd} (hC : ∀ x, x ∈ hs → 1 ≤ x.C ∧ x.C ≤ 1000) : ∀ (n : Nat) (f fr : Fr), Gd f → pickN n f hs = some fr →
    Gd fr ∧ fr.ts.map Tn.N = f.ts.map Tn.N ∧ fr.Q = f.Q ∧ ∃ (k : Nat) (q : Tn), fr.At = (k : Int) ∧ fr.ts[k]? = some q ∧ costOf hs q.N ≠ 0 := by
  intro n
  induction n with
  | zero => intro f fr _ h; simp [pickN] at h
  | succ n ih =>
    intro f fr hg h
    obtain ⟨k, hk, hkl⟩ := hg.at_
    obtain ⟨q, hq⟩ := get_some f.ts k hkl
    rw [pickN, hk, Int.toNat_natCast, hq] at h
    simp only at h
    have hcb := costOf_bound hC q.N
    have hgd := serveF_gd hg hk hq (costOf hs q.N) hcb
    have hn := serveF_names f k q (costOf hs q.N) hq
    obtain ⟨ha, hQ⟩ := serveF_at f k q (costOf hs q.N)
    obtain ⟨x, hx, _⟩ := serveF_left hg hk hq (costOf hs q.N) hcb
    have hnz : (serveF f k q (costOf hs q.N)).2 = true → costOf hs q.N ≠ 0 := by
      intro h1 h2
      rw [h2] at h1
      simp [serveF] at h1
    cases hz : (serveF f k q (costOf hs q.N)).2 with
    | true =>
      rw [hz] at h
      simp only [if_true, Option.some.injEq] at h
      subst h
      exact ⟨hgd.1 hz, hn, hQ, k, ⟨q.N, q.W, x⟩, by rw [ha, hk], by rw [hx, List.getElem?_set, if_pos rfl, if_pos hkl], hnz hz⟩
    | false =>
      rw [hz] at h
      simp only [Bool.false_eq_true, if_false] at h
      obtain ⟨r1, r2, r3, r4⟩ := ih _ _ (hgd.2 hz) h
      exact ⟨r1, r2.trans hn, r3.trans hQ, r4⟩
/-- the names of those that are picked -/
def runP : Nat → Fr → List Hd → List UInt8 → Option (List UInt8)
  | 0, _, _, acc => some acc
  | n + 1, f, hs, acc => match pickN 10 f hs with
    | none => none
    | some fr => match fr.ts[fr.At.toNat]? with
      | none => none
      | some q => runP n fr hs (acc ++ q.N)
theorem bstr_app (a b : List UInt8) : bstr a ++ bstr b = bstr (a ++ b) := by
  apply ByteArray.ext
  simp [bstr]
def fr0 : Fr := ⟨1, [⟨[97], 2, 0⟩, ⟨[98], 1, 0⟩], 0, false⟩

set_option maxRecDepth 100000 in
set_option maxHeartbeats 8000000 in
theorem picks_any (n : Nat) (c : Int) (out : List UInt8) (w : World) (hn : n ≤ 1000) (h1 : 1 ≤ c) (h2 : c ≤ 1000) (hr : runP n fr0 [⟨[97], c⟩, ⟨[98], c⟩] [] = some out) :
    Calls Try.prog 68 #[.int .i64 (n : Int), .int .i64 c] w fun e w' => e = .returned (.string (bstr out)) ∧ Below w.heap.size w w' := by
  go_enter Try.func68, Try.ntmps68
  go_wp2_with fail
  refine (fnew_any 1 _ (by decide) (by decide)).mono ?_; rintro x w1 ⟨rfl, b1⟩
  have o1 : Own w1.heap.size 36 1 (w1.alloc (.cells (frC 1 none 0 0 0 false).toArray 36)) (some ⟨w1.heap.size, 0, none⟩) 4 4 (frC 1 none 0 0 0 false) := new_own w1 (frC 1 none 0 0 0 false) 36 4 rfl (by unfold maxLen; omega)
  have b2 := below_alloc1 w1 (.cells (frC 1 none 0 0 0 false).toArray 36)
  have o1 := o1.lower (base' := w.heap.size) b1.size
  have bA := b1.trans (b2.mono b1.size)
  have hgw := b1.size
  simp only [frC] at o1 bA
  clear b1 b2
  unfold frV
  go_upto_region 2 with fail
  generalize w1.alloc (.cells #[.int .i64 1, .slice none 0 0, .int .i64 0, .bool false] 36) = w2 at *
  have y0 := World.ownsRow.cellAt o1 0 (by omega)
  have y1 := World.ownsRow.cellAt o1 1 (by omega)
  have y2 := World.ownsRow.cellAt o1 2 (by omega)
  have y3 := World.ownsRow.cellAt o1 3 (by omega)
  simp only [List.getElem?_cons_succ, List.getElem?_cons_zero] at y0 y1 y2 y3
  have hg1 := World.ownsRow.lt o1 w1.heap.size rfl
  go_wp2_with fail
  refine (fset_any ⟨1, [], 0, false⟩ [97] 2 none 0 _ (Sl.nil _ 3) (by decide) (by decide) (by decide) (by decide) (by decide) (by decide)).mono ?_; rintro x w3 ⟨A3, c3, rfl, s3, b3, f3⟩
  simp only [frV, addT, List.nil_append, List.length_cons, List.length_nil, Nat.zero_add] at s3 ⊢
  have o1 := o1.below b3
  have bB := bA.trans (b3.mono (by have := bA.size; omega))
  clear y0 y1 y2 y3 bA b3
  have y0 := World.ownsRow.cellAt o1 0 (by omega)
  have y1 := World.ownsRow.cellAt o1 1 (by omega)
  have y2 := World.ownsRow.cellAt o1 2 (by omega)
  have y3 := World.ownsRow.cellAt o1 3 (by omega)
  simp only [List.getElem?_cons_succ, List.getElem?_cons_zero] at y0 y1 y2 y3
  have x0 := World.ownsRow.frozenAt o1 0
  have x1 := World.ownsRow.frozenAt o1 1
  have x2 := World.ownsRow.frozenAt o1 2
  have x3 := World.ownsRow.frozenAt o1 3
  have st := stored4 o1 (.int .i64 1) (.slice A3 1 c3) (.int .i64 0) (.bool false)
  have s4 := s3.grown st.2 (fun a ha he => by
    have e1 : a.block = w1.heap.size := Option.some.inj he
    have := f3 a ha
    omega)
  have o2 := st.1
  have bC := bB.grown st.2 bB.size (fun j hj => by cases hj; omega)
  clear st s3 bB
  go_upto_region 3 with fail
  generalize ((((w3.setCell ⟨w1.heap.size, 0, none⟩ (.int .i64 1)).setCell ⟨w1.heap.size, 1, none⟩ (.slice A3 1 c3)).setCell ⟨w1.heap.size, 2, none⟩ (.int .i64 0)).setCell ⟨w1.heap.size, 3, none⟩ (.bool false)) = w4 at *
  clear y0 y1 y2 y3 x0 x1 x2 x3 o1
  have y0 := World.ownsRow.cellAt o2 0 (by omega)
  have y1 := World.ownsRow.cellAt o2 1 (by omega)
  have y2 := World.ownsRow.cellAt o2 2 (by omega)
  have y3 := World.ownsRow.cellAt o2 3 (by omega)
  simp only [List.getElem?_cons_succ, List.getElem?_cons_zero] at y0 y1 y2 y3
  have hg4 := World.ownsRow.lt o2 w1.heap.size rfl
  go_wp2_with fail
  refine (fset_any ⟨1, [⟨[97], 2, 0⟩], 0, false⟩ [98] 1 A3 c3 _ s4 (by decide) (by decide) (by decide) (by decide) (by decide) (by decide)).mono ?_; rintro x w5 ⟨A5, c5, rfl, s5, b5, f5⟩
  simp only [frV, addT, List.cons_append, List.nil_append, List.length_cons, List.length_nil, Nat.zero_add, Nat.reduceAdd] at s5 ⊢
  have o2 := o2.below b5
  have bD := bC.trans (b5.mono (by have := bC.size; omega))
  clear y0 y1 y2 y3 bC b5 s4
  have y0 := World.ownsRow.cellAt o2 0 (by omega)
  have y1 := World.ownsRow.cellAt o2 1 (by omega)
  have y2 := World.ownsRow.cellAt o2 2 (by omega)
  have y3 := World.ownsRow.cellAt o2 3 (by omega)
  simp only [List.getElem?_cons_succ, List.getElem?_cons_zero] at y0 y1 y2 y3
  have x0 := World.ownsRow.frozenAt o2 0
  have x1 := World.ownsRow.frozenAt o2 1
  have x2 := World.ownsRow.frozenAt o2 2
  have x3 := World.ownsRow.frozenAt o2 3
  have st := stored4 o2 (.int .i64 1) (.slice A5 2 c5) (.int .i64 0) (.bool false)
  have s6 := s5.grown st.2 (fun a ha he => by
    have e1 : a.block = w1.heap.size := Option.some.inj he
    have := f5 a ha
    omega)
  have o3 := st.1
  have bE := bD.grown st.2 bD.size (fun j hj => by cases hj; omega)
  clear st s5 bD
  go_upto_region 4 with fail
  generalize ((((w5.setCell ⟨w1.heap.size, 0, none⟩ (.int .i64 1)).setCell ⟨w1.heap.size, 1, none⟩ (.slice A5 2 c5)).setCell ⟨w1.heap.size, 2, none⟩ (.int .i64 0)).setCell ⟨w1.heap.size, 3, none⟩ (.bool false)) = w6 at *
  clear y0 y1 y2 y3 x0 x1 x2 x3 o2
  have hgd0 : Gd fr0 := right_gd (by decide) (by decide)
  have hsP : flatH [⟨[97], c⟩, ⟨[98], c⟩] = [.string (bstr [97]), .int .i64 c, .string (bstr [98]), .int .i64 c] := rfl
  obtain ⟨hs, hhs⟩ : ∃ hs : List Hd, hs = [⟨[97], c⟩, ⟨[98], c⟩] := ⟨_, rfl⟩
  rw [← hhs] at hr hsP
  have hC : ∀ x, x ∈ hs → 1 ≤ x.C ∧ x.C ≤ 1000 := by
    intro x hx; rw [hhs] at hx; simp at hx; rcases hx with rfl | rfl <;> exact ⟨h1, h2⟩
  have hmay : ∀ ts : List Tn, ts.map Tn.N = [[97], [98]] → MayOK ts hs := by
    intro ts hts
    refine ⟨by rw [hhs]; show ([[97], [98]] : List (List UInt8)).Nodup; decide, fun h hh => ?_⟩
    have h0 := hC h hh
    rw [hhs] at hh
    simp at hh
    rcases hh with rfl | rfl
    · exact ⟨by simp, placeI_mem (by rw [hts]; simp), h0.1, h0.2⟩
    · exact ⟨by simp, placeI_mem (by rw [hts]; simp), h0.1, h0.2⟩
  have hne : hs ≠ [] := by rw [hhs]; simp
  have HhC := Lib.hid hC
  have Hmay := Lib.hid hmay
  have HsP := Lib.hid hsP
  have Hr := Lib.hid hr
  have Hgd0 := Lib.hid hgd0
  clear hC hmay hsP hr hgd0 hhs
  go_wp2_with fail
  go_loopw [7, 26] (fun s7 s26 wx => ∃ (i : Nat) (acc : List UInt8) (f : Fr) (A : Option Addr) (cc : Nat), i ≤ n ∧ acc.length ≤ 40 * i ∧ s26 = .int .i64 (i : Int) ∧ s7 = .string (bstr acc) ∧ Own w.heap.size 36 1 wx (some ⟨w1.heap.size, 0, none⟩) 4 4 (frC f.Q A f.ts.length cc f.At f.H) ∧ Sl wx 3 A f.ts.length cc (flatT f.ts) ∧ Hid (Gd f) ∧ Hid (f.ts.map Tn.N = [[97], [98]]) ∧ Hid (runP (n - i) f hs acc = some out) ∧ Below w.heap.size w wx) (fun _ iv _ => n - (intOf iv).toNat)
  case atStart => exact ⟨0, [], fr0, A5, c5, by omega, by simp, rfl, rfl, o3, s6, Hgd0, Lib.hid rfl, Hr, bE⟩
  case round =>
    obtain ⟨i, acc, f, A, cc, hin, hal, rfl, rfl, oF, sF, HG, HN, HR, bF⟩ := hrel
    by_cases g1 : (i : Int) < (n : Int)
    · have hrr := HR.out
      rw [show n - i = (n - i - 1) + 1 by omega, runP] at hrr
      cases hpk : pickN 10 f hs with
      | none => rw [hpk] at hrr; simp at hrr
      | some fr =>
        rw [hpk] at hrr
        simp only at hrr
        obtain ⟨p1, p2, p3, k, q, p4, p5, p6⟩ := pickN_spec HhC.out 10 f fr HG.out hpk
        rw [p4, Int.toNat_natCast, p5] at hrr
        simp only at hrr
        have Hp1 := Lib.hid p1
        have Hp2 := Lib.hid (p2.trans HN.out)
        have Hp4 := Lib.hid p4
        have Hp5 := Lib.hid p5
        have Hrr := Lib.hid hrr
        have Hpk := Lib.hid hpk
        clear p1 p2 p3 p4 p5 p6 hrr hpk
        have bH := below_alloc1 wr (.cells #[.string (bstr [97]), .int .i64 c, .string (bstr [98]), .int .i64 c] 45)
        have sH : Sl (wr.alloc (.cells #[.string (bstr [97]), .int .i64 c, .string (bstr [98]), .int .i64 c] 45)) 2 (some ⟨wr.heap.size, 0, none⟩) 2 2 (flatH hs) := by
          rw [HsP.out]
          exact ⟨(sl_cells wr [.string (bstr [97]), .int .i64 c, .string (bstr [98]), .int .i64 c] 45).cells, rfl, Nat.le_refl _, fun h => by cases h⟩
        have sF7 := sF.below bH
        have oF7 := oF.below bH
        have Hgw := Lib.hid (show w1.heap.size < (wr.alloc (.cells #[.string (bstr [97]), .int .i64 c, .string (bstr [98]), .int .i64 c] 45)).heap.size from (World.ownsRow.lt oF7 w1.heap.size rfl).2)
        have bG := bF.trans (bH.mono bF.size)
        have y0 := World.ownsRow.cellAt oF 0 (by omega)
        have y1 := World.ownsRow.cellAt oF 1 (by omega)
        have y2 := World.ownsRow.cellAt oF 2 (by omega)
        have y3 := World.ownsRow.cellAt oF 3 (by omega)
        simp only [frC, List.getElem?_cons_succ, List.getElem?_cons_zero] at y0 y1 y2 y3
        clear sF bH bF
        go_wp2_with fail
        refine (pick_any f fr hs 10 k q A (some ⟨wr.heap.size, 0, none⟩) cc 2 2 _ sF7 sH (by omega) HG.out (Hmay.out f.ts HN.out) hne Hpk.out Hp4.out Hp5.out).mono ?_; rintro x w7 ⟨A7, c7, rfl, s7, b7, f7⟩
        have hsz7 := bG.size
        have oF8 := oF7.below b7
        have bH := bG.trans (b7.mono bG.size)
        clear y0 y1 y2 y3 sF7 sH oF7 oF b7 bG
        have o8 : Own w7.heap.size 36 1 (w7.alloc (.cells (frC fr.Q A7 fr.ts.length c7 fr.At fr.H).toArray 36)) (some ⟨w7.heap.size, 0, none⟩) 4 4 (frC fr.Q A7 fr.ts.length c7 fr.At fr.H) := new_own w7 (frC fr.Q A7 fr.ts.length c7 fr.At fr.H) 36 4 rfl (by unfold maxLen; omega)
        have b8 := below_alloc1 w7 (.cells (frC fr.Q A7 fr.ts.length c7 fr.At fr.H).toArray 36)
        have oF9 := oF8.below b8
        have s9 := s7.below b8
        have bI := bH.trans (b8.mono bH.size)
        simp only [frC] at o8 b8 oF9 s9 bI
        clear b8 oF8 s7 bH
        unfold frV
        go_upto_region 8 with fail
        generalize w7.alloc (.cells #[.int .i64 fr.Q, .slice A7 fr.ts.length c7, .int .i64 fr.At, .bool fr.H] 36) = w8 at *
        have z0 := World.ownsRow.cellAt o8 0 (by omega)
        have z1 := World.ownsRow.cellAt o8 1 (by omega)
        have z2 := World.ownsRow.cellAt o8 2 (by omega)
        have z3 := World.ownsRow.cellAt o8 3 (by omega)
        simp only [List.getElem?_cons_succ, List.getElem?_cons_zero] at z0 z1 z2 z3
        have y0 := World.ownsRow.cellAt oF9 0 (by omega)
        have y1 := World.ownsRow.cellAt oF9 1 (by omega)
        have y2 := World.ownsRow.cellAt oF9 2 (by omega)
        have y3 := World.ownsRow.cellAt oF9 3 (by omega)
        simp only [List.getElem?_cons_succ, List.getElem?_cons_zero] at y0 y1 y2 y3
        have x0 := World.ownsRow.frozenAt oF9 0
        have x1 := World.ownsRow.frozenAt oF9 1
        have x2 := World.ownsRow.frozenAt oF9 2
        have x3 := World.ownsRow.frozenAt oF9 3
        have st := stored4 oF9 (.int .i64 fr.Q) (.slice A7 fr.ts.length c7) (.int .i64 fr.At) (.bool fr.H)
        have hg9 := World.ownsRow.lt oF9 w1.heap.size rfl
        have s10 := s9.grown st.2 (fun a ha he => by
          have e1 : a.block = w1.heap.size := Option.some.inj he
          have := f7 a ha
          have := Hgw.out
          omega)
        have bJ := bI.grown st.2 bI.size (fun j hj => by cases hj; omega)
        have oK := st.1
        have happ := bstr_app acc q.N
        clear st s9 bI o8 oF9
        have hz1 : (bstr acc).size = acc.length := rfl
        have hz2 : (bstr q.N).size = q.N.length := rfl
        have hz3 : (bstr (acc ++ q.N)).size = acc.length + q.N.length := by show (acc ++ q.N).length = _; rw [List.length_append]
        have hqn : q.N.length ≤ 40 := by
          have := (okT_iff.1 (Hp1.out.ok k q Hp5.out)).1
          simp [namedB] at this
          omega
        go_wp2_with fail
        go_roundw
        case rel => exact ⟨i + 1, acc ++ q.N, fr, A7, c7, by omega, by rw [List.length_append]; omega, by go_num, rfl, oK, s10, Hp1, Hp2, by rw [show n - (i + 1) = n - i - 1 by omega]; exact Hrr, bJ⟩
        case measure => simp [intOf]; omega
    · obtain rfl : i = n := by omega
      have hrr := HR.out
      rw [Nat.sub_self, runP] at hrr
      obtain rfl := Option.some.inj hrr
      go_wp2_with fail
      go_ret
      exact ⟨rfl, bF⟩
end Go.Proofs.Ytphjmbhlokkdiaa
