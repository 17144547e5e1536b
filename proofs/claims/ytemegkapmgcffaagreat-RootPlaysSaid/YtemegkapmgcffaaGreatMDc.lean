import Derived.Test.YtemegkapmgcffaaGreatMDb
import Derived.Test.YtemegkapmgcffaaGreatMWa
import Derived.Lib.AppendZeros
import Derived.Deep.AppendSrc
/- The disk: left (what a crash leaves of a file). -/
namespace Go.Proofs.YtemegkapmgcffaaGreat
open Go.RowKit
set_option linter.unusedSimpArgs false
set_option linter.unusedVariables false

theorem neg_and63 (e : Nat) (he : e ≤ 1000000000000) : bits .and .i64 (-(e : Int)) 63 = (((64 - e % 64) % 64 : Nat) : Int) := by
  have h1 : ∀ m : Nat, m &&& 63 = m % 64 := fun m => Nat.and_two_pow_sub_one_eq_mod m 6
  have hb : IntKind.i64.bits = 64 := rfl
  simp only [bits, BitVec.toNat_and, BitVec.toNat_ofInt, hb]
  have h2 : ((63 : Int) % ((2 ^ 64 : Nat) : Int)).toNat = 63 := by decide
  rw [h2, h1, IntKind.wrap_i64]
  omega
theorem sl_takeF {w : World} {A : Option Addr} {n c m : Nat} {l : List UInt8} (h : Sl w 1 A n c (bytesV l)) (hm : m ≤ n) : Sl w 1 A m c (bytesV (l.take m)) := by
  have h2 : bytesV (l.take m) = (bytesV l).take m := by unfold bytesV; rw [List.map_take]
  refine ⟨fun j u hj => ?_, ?_, by have := h.le; omega, fun ha => ⟨by have := (h.none ha).1; omega, (h.none ha).2⟩⟩
  · rw [h2, List.getElem?_take] at hj
    split at hj
    · exact h.cells j u hj
    · cases hj
  · rw [h2, List.length_take, h.len]; omega
theorem ownBlock_ge {base size n c : Nat} {e : TypeId} {w : World} {A : Option Addr} {cs : List Value} (h : Own base e size w A n c cs) {q : Nat} (hq : (Value.slice A n c).ownBlock = some q) : base ≤ q := by
  cases A with
  | none => simp [Value.ownBlock] at hq
  | some a =>
    simp [Value.ownBlock] at hq
    have := (own_lt h a rfl).1
    omega
theorem run_min3 (w : World) (ts : Array TypeId) (t : TypeId) (k : IntKind) (x y z : Int) :
    (Builtin.min_ ts t #[.int k x, .int k y, .int k z]).run Tryz.prog w = .ok (.int k (min x (min y z))) w := by
  have e1 : ∀ a b : Int, (if decide (b < a) = true then Value.int k b else Value.int k a) = Value.int k (min a b) := by
    intro a b
    rw [Int.min_def]
    split <;> split <;> first | rfl | (simp at *; omega)
  have e2 : min x (min y z) = min (min x y) z := by omega
  rw [e2]
  simp only [Int.min_def]
  simp [Builtin.min_, Builtin.min2]
  split <;> split <;> (try split) <;> first | rfl | (simp at *; omega)
theorem box_cells3 (w : World) (a b d : Value) (t : TypeId) : (w.alloc (.cells #[a, b, d] t)).cell? ⟨w.heap.size, 0, none⟩ = some a ∧ (w.alloc (.cells #[a, b, d] t)).cell? ⟨w.heap.size, 1, none⟩ = some b ∧ (w.alloc (.cells #[a, b, d] t)).cell? ⟨w.heap.size, 2, none⟩ = some d := by
  have h := heap_alloc_new w (.cells #[a, b, d] t)
  refine ⟨?_, ?_, ?_⟩ <;> (unfold World.cell?; simp only [h]; rfl)
set_option maxRecDepth 100000 in
set_option maxHeartbeats 4000000 in
theorem left_any (f : Fl) (A : Option Addr) (c : Nat) (keep tear : Nat) (w : World) (hs : Sl w 1 A f.b.length c (bytesV f.b)) (hl : f.b.length ≤ 16777216) (hsf : f.safe ≤ f.b.length) (hk : (keep : Int) ≤ 9223372036854775807) (ht : (tear : Int) ≤ 9223372036854775807) :
    Calls Tryz.prog 51 #[.agg #[.string (bstr f.nm), .slice A f.b.length c, .int .i64 f.safe], .int .i64 keep, .int .i64 tear] w fun x w' => ∃ A' c', x = .returned (.agg #[.string (bstr f.nm), .slice A' (leftF f keep tear).b.length c', .int .i64 (leftF f keep tear).safe]) ∧ Own w.heap.size 5 1 w' A' (leftF f keep tear).b.length c' (bytesV (leftF f keep tear).b) ∧ Below w.heap.size w w' := by
  obtain ⟨e, hee⟩ : ∃ e, e = f.safe + min keep (f.b.length - f.safe) := ⟨_, rfl⟩
  have hen : e ≤ f.b.length := by omega
  have hme : (f.safe : Int) + min (keep : Int) ((f.b.length : Int) - (f.safe : Int)) = (e : Int) := by omega
  have hw1 : IntKind.i64.wrap ((f.b.length : Int) - (f.safe : Int)) = (f.b.length : Int) - (f.safe : Int) := by rw [IntKind.wrap_i64]; omega
  have hw2 : IntKind.i64.wrap ((f.safe : Int) + min (keep : Int) ((f.b.length : Int) - (f.safe : Int))) = (e : Int) := by rw [IntKind.wrap_i64]; omega
  have hw3 : IntKind.i64.wrap (-(e : Int)) = -(e : Int) := by rw [IntKind.wrap_i64]; omega
  obtain ⟨q, hq⟩ : ∃ q, q = (64 - e % 64) % 64 := ⟨_, rfl⟩
  have hbt := neg_and63 e (by omega)
  rw [← hq] at hbt
  have Hee := Lib.hid hee
  have Hq := Lib.hid hq
  have hk2 : min (tear : Int) (min (q : Int) ((f.b.length : Int) - (e : Int))) = ((min tear (min q (f.b.length - e)) : Nat) : Int) := by omega
  clear hee hq
  go_enter Tryz.func51, Tryz.ntmps51
  have hec : (0 : Int) ≤ (e : Int) ∧ (e : Int) ≤ (c : Int) := by have := hs.le; omega
  have He := Lib.hid hen
  obtain ⟨kk, hkk⟩ : ∃ kk, kk = min tear (min q (f.b.length - e)) := ⟨_, rfl⟩
  rw [← hkk] at hk2
  have Hkk := Lib.hid hkk
  have hkl : e + kk ≤ 16777216 := by omega
  clear hkk
  go_wp2_with fail
  have hb1 := below_alloc1 w (.cells #[.string (bstr f.nm), .slice A f.b.length c, .int .i64 f.safe] 79)
  have hbx := box_cells3 w (.string (bstr f.nm)) (.slice A f.b.length c) (.int .i64 f.safe) 79
  obtain ⟨W1, hW1⟩ : ∃ W1, W1 = w.alloc (.cells #[.string (bstr f.nm), .slice A f.b.length c, .int .i64 f.safe] 79) := ⟨_, rfl⟩
  have hs1 : W1.heap.size = w.heap.size + 1 := by rw [hW1]; simp
  rw [← hW1] at hb1 hbx
  rw [← hW1]
  have hb2 := below_alloc1 W1 (.cells #[.string { data := #[] }, .slice none 0 0, .int .i64 0] 79)
  have hown := new_own W1 [.string { data := #[] }, .slice none 0 0, .int .i64 0] 79 3 rfl (by unfold maxLen; omega)
  obtain ⟨W2, hW2⟩ : ∃ W2, W2 = W1.alloc (.cells #[.string { data := #[] }, .slice none 0 0, .int .i64 0] 79) := ⟨_, rfl⟩
  have hT : (W1.alloc (.cells [Value.string { data := #[] }, .slice none 0 0, .int .i64 0].toArray 79)) = W2 := hW2.symm
  rw [hT] at hown
  rw [← hW2] at hb2
  rw [← hW2]
  refine (clone_such (B := W2.heap.size) (Nat.le_refl _) ⟨(sl_takeF (hs.below (hb1.trans (hb2.mono hb1.size))) He.out), by omega⟩).mono ?_
  rintro x w3 ⟨v, rfl, hb3, hcl⟩
  obtain ⟨A3, c3, rfl, hown3⟩ := isCl_elim hcl
  have Hb2 := Lib.hid (hb1.trans (hb2.mono hb1.size))
  have Hown := Lib.hid hown
  have Hbx := Lib.hid (cellB hb2 hbx.1)
  have hx1 := cellB hb3 (cellB hb2 hbx.2.1)
  have hw4 : IntKind.i64.wrap ((f.b.length : Int) - (e : Int)) = (f.b.length : Int) - (e : Int) := by rw [IntKind.wrap_i64]; omega
  have Hs1 := Lib.hid hs1
  have Hs2 := Lib.hid (show W2.heap.size = W1.heap.size + 1 by rw [hW2]; simp)
  have Hb3 := Lib.hid hb3
  have Hown3 := Lib.hid hown3
  obtain ⟨i0, hi, hz0, hz1, hz2⟩ := info_parts infoByteC
  have hm3 : ∀ ts t W, (Builtin.min_ ts t #[.int .i64 (tear : Int), .int .i64 (q : Int), .int .i64 ((f.b.length : Int) - (e : Int))]).run Tryz.prog W = .ok (.int .i64 (kk : Int)) W := fun ts t W => by rw [run_min3, hk2]
  clear hb1 hb2 hb3 hown hown3 hcl hbx hs1 hW1 hW2 hT
  go_wp2_with fail
  go_loopw [9, 37] (fun s9 s37 wx => ∃ (j : Nat) (A9 : Option Addr) (c9 : Nat), j ≤ kk ∧ s9 = .slice A9 (e + j) c9 ∧ s37 = .int .i64 (j : Int) ∧ Hid (Own W2.heap.size 5 1 wx A9 (e + j) c9 (bytesV (f.b.take e ++ List.replicate j 0))) ∧ Hid (Below W2.heap.size W2 wx)) (fun _ iv _ => kk - (intOf iv).toNat)
  case atStart => exact ⟨0, A3, c3, by omega, rfl, rfl, Lib.hid (by simpa using Hown3.out), Hb3⟩
  case round =>
    obtain ⟨j, A9, c9, hj, rfl, rfl, HO, HB⟩ := hrel
    by_cases h1 : (j : Int) < (kk : Int)
    · have hwj : IntKind.i64.wrap ((j : Int) + 1) = (j : Int) + 1 := by rw [IntKind.wrap_i64]; omega
      go_wp2_with (at_builtin; refine wpList_append_own _ rfl _ _ 34 rfl W2.heap.size 5 i0 (.int .u8 0) 1 1 Tryz.underlying34 hi hz0 hz1 hz2 rfl (by decide) _ (e + j) _ rfl (HO.out.alloc _) ⟨wr.heap.size, 0, none⟩ 1 1 [.int .u8 0] rfl rfl (cell_one_new _ _ _) (by simp [Value.oneCell']) (by unfold maxLen; omega) (by omega) (by have := HB.out.size; simp; omega) ?_; intro v' w5 hown5 hgrow5 hnil5)
      all_goals
        obtain ⟨A', c', rfl, h2⟩ := ownsRow_sliceI hown5
        have hl9 : bytesV (f.b.take e ++ List.replicate j 0) ++ [.int .u8 0] = bytesV (f.b.take e ++ List.replicate (j + 1) 0) := by
          rw [List.replicate_succ', ← List.append_assoc]
          simp [bytesV]
          rfl
        rw [hl9] at h2
        refine ⟨⟨j + 1, A', c', by omega, rfl, rfl, Lib.hid h2, Lib.hid ((HB.out.trans ((below_alloc1 _ _).mono HB.out.size)).grown hgrow5 (Nat.le_trans HB.out.size (below_alloc1 _ _).size) (fun q hq => (ownBlock_ge HO.out hq)))⟩, by simp [intOf]; omega⟩
    · obtain rfl : j = kk := by omega
      have z0 := cellB HB.out Hbx.out
      have ho := Hown.out.below HB.out
      have k0 := World.ownsRow.cellAt ho 0 (by omega)
      have k1 := World.ownsRow.cellAt ho 1 (by omega)
      have k2 := World.ownsRow.cellAt ho 2 (by omega)
      simp only [List.getElem?_cons_zero, List.getElem?_cons_succ] at k0 k1 k2
      have f0 := World.ownsRow.frozenAt ho 0
      have f1 := World.ownsRow.frozenAt ho 1
      have f2 := World.ownsRow.frozenAt ho 2
      rw [Hs1.out] at ho k0 k1 k2 f0 f1 f2
      have st := stored3 ho (.string (bstr f.nm)) (.slice A9 (e + j) c9) (.int .i64 ((e : Int) + (j : Int)))
      have Hst := Lib.hid st
      clear st ho
      have Hej := Lib.hid (show leftF f (keep : Int) (tear : Int) = ⟨f.nm, f.b.take e ++ List.replicate j 0, e + j⟩ by
        unfold leftF
        simp only [Int.toNat_natCast]
        rw [← Hee.out, ← Hq.out, ← Hkk.out])
      have HlenL := Lib.hid (show (f.b.take e ++ List.replicate j 0).length = e + j by have := He.out; simp; omega)
      go_wp2_with fail
      refine bodyPost_ret (results_cellD rfl _ _ _ ⟨w.heap.size + 1, 0, none⟩ rfl _ (load_ownD Hst.out.1)) rfl ?_
      rw [Hej.out]
      simp only [HlenL.out]
      refine ⟨A9, c9, by simp, ?_, ?_⟩
      · refine Own.lower (own_same HO.out (fun a ha => Hst.out.2.block _ (own_lt HO.out a ha).2 (fun e2 => ?_))) (Hb2.out.size)
        have := (own_lt HO.out a ha).1
        have := Option.some.inj e2
        have := Hs1.out
        have := Hs2.out
        omega
      · exact (Hb2.out.trans (HB.out.mono Hb2.out.size)).grown Hst.out.2 (by have := HB.out.size; have := Hb2.out.size; omega) (fun k hk => by cases hk; omega)
end Go.Proofs.YtemegkapmgcffaaGreat

/- append(l, make([]T, n)...) onto a slice of the call's own. -/
namespace Go.Proofs.YtemegkapmgcffaaGreat
open Go.RowKit Go.Lib
set_option linter.unusedSimpArgs false
set_option linter.unusedVariables false

theorem zeroCells_one (z : Value) (hz : z.cells = #[z]) (n : Nat) : Builtin.zeroCells z.cells n = (List.replicate n z).toArray := by
  unfold Builtin.zeroCells
  rw [hz]
  apply Array.ext'
  simp only [List.size_toArray, List.length_cons, List.length_nil, Nat.zero_add, Nat.mul_one, Nat.mod_one, Array.toList_map, Array.toList_range]
  apply List.ext_getElem <;> simp
theorem run_append_own_zeros {P : Program} (w : World) (base : Nat) (t tn ty e : TypeId) (i : TypeInfo) (z : Value) (bytes : Nat) (kn : IntKind) (ht : P.underlying t = some (.slice e)) (htn : P.underlying tn = some (.int kn)) (hi : P.info? e = some i) (hz : i.zero = some z)
    (hsize : i.size = 1) (hby : i.bytes = bytes) (hzs : z.cells = #[z]) (hz1 : z.oneCell' = true)
    (v : Value) (n : Nat) (xs : List Value) (hown : w.ownsRow base e 1 v n xs) (m : Nat) (hm : 0 < m)
    (h63 : n + m ≤ maxLen) (hbytes : (n + m) * bytes ≤ 140737488355328) (hbase : base ≤ w.heap.size) :
    ∃ v' w', (Builtin.append_ #[t, tn] ty #[v, .int .i64 m]).run P w = .ok v' w' ∧ w'.ownsRow base e 1 v' (n + m) (xs ++ List.replicate m z) ∧ w.grownBy w' v.ownBlock ∧ (v'.ownBlock = v.ownBlock ∨ v'.ownBlock = some w.heap.size) := by
  subst hby
  have hsmall : n + m ≤ 9223372036854775807 := by simp only [maxLen] at h63; omega
  have hxl : xs.length = n := by simpa using hown.1
  have hlen : (xs ++ List.replicate m z).length = (n + m) * 1 := by simp [hxl]
  have hw : IntKind.i64.wrap (m : Int) = m := by rw [IntKind.wrap_i64]; omega
  have hneg : ¬ ((m : Int) < 0) := by omega
  have hm0 : ¬ m = 0 := by omega
  have h48m : m * i.bytes ≤ 281474976710656 := Nat.le_trans (Nat.mul_le_mul_right _ (Nat.le_add_left m n)) (by omega)
  have h48i : ¬ (281474976710656 < (m : Int) * (i.bytes : Int)) := by
    rw [← Int.natCast_mul]
    omega
  have grown : ∀ (old : Nat), old < n + m → ∀ (row : Option Nat),
      (w.drew.alloc (.cells (xs.toArray ++ (List.replicate m z).toArray ++ Builtin.zeroCells z.cells (grownCap w (n + m) old e - (n + m))) e)).ownsRow base e 1
        (.slice (some ⟨w.heap.size, 0, none⟩) (n + m) (grownCap w (n + m) old e)) (n + m) (xs ++ List.replicate m z) ∧
      w.grownBy (w.drew.alloc (.cells (xs.toArray ++ (List.replicate m z).toArray ++ Builtin.zeroCells z.cells (grownCap w (n + m) old e - (n + m))) e)) row := by
    intro old ho row
    have hge := grownCap_ge w (n + m) old e
    have hcm : grownCap w (n + m) old e ≤ maxLen := grownCap_le_maxLen w (n + m) old e h63
    refine ⟨⟨hlen, .inr ⟨w.heap.size, _, _, rfl, hbase, heap_alloc_new w.drew _, hge, hcm, ?_, ?_⟩⟩, ⟨rfl, rfl, rfl, by simp, fun k hk _ => heap_alloc_old w.drew _ hk⟩⟩
    · rw [zeroCells_one z hzs]
      simp [hxl]
      omega
    · simp only [Array.toList_append, List.append_assoc]
      rw [← List.append_assoc, ← hlen]
      exact List.take_left
  rcases hown.2 with ⟨rfl, rfl⟩ | ⟨g, cap, cur, rfl, hbg, hg, hnc, hcm, hcs, htake⟩
  · have hx : xs = [] := List.eq_nil_of_length_eq_zero hxl
    subst hx
    have hr := run_append_nil_zeros (P := P) w t tn ty e i z .i64 kn ht htn hi hz m hm (by omega) (by omega) h48m
    have hgr := grown 0 (by omega) (Value.ownBlock (.slice none 0 0))
    rw [zeroCells_one z hzs m] at hr
    simp only [Nat.zero_add, List.nil_append, Array.empty_append] at hgr ⊢
    exact ⟨_, _, hr, hgr.1, hgr.2, .inr rfl⟩
  · by_cases hroom : n + m ≤ cap
    · have hfit : n + (List.replicate m z).length ≤ cur.size := by rw [List.length_replicate, hcs]; omega
      have hst := run_storeCells_at P g n e (List.replicate m z) 0 cur w hg (by simpa using hfit) (fun u hu => by rw [List.eq_of_mem_replicate hu]; exact hz1)
      simp only [Nat.add_zero] at hst
      rw [Nat.mul_one] at htake hcs
      have hrun : (Builtin.append_ #[t, tn] ty #[.slice (some ⟨g, 0, none⟩) n cap, .int .i64 m]).run P w = .ok (.slice (some ⟨g, 0, none⟩) (n + m) cap) (w.setRow g (cur.toList.take n ++ List.replicate m z ++ cur.toList.drop (n + (List.replicate m z).length)).toArray) := by
        simp [Builtin.append_, run_underlying ht, run_underlying htn, sizeOf, typeInfo, zeroValue, hi, hz, hsize, asInt, asIntOf, hw, hneg, hm0, h48i, hroom, zeroCells_one z hzs, Addr.add_lit, hst]
      refine ⟨_, _, hrun, ⟨hlen, .inr ⟨g, cap, _, rfl, hbg, setRow_heap w g cur _ e _ hg, hroom, hcm, ?_, ?_⟩⟩, ⟨rfl, rfl, rfl, by simp, fun k _ hk => setRow_other w g k _ (fun e => hk (by simp [Value.ownBlock, e]))⟩, .inl rfl⟩
      · simp only [List.size_toArray, List.length_append, List.length_take, List.length_drop, Array.length_toList]
        rw [List.length_replicate] at hfit ⊢
        omega
      · rw [htake, ← hlen]
        exact List.take_left
    · have holds : ∀ j u, xs[j]? = some u → w.cell? ((⟨g, 0, none⟩ : Addr).add j) = some u := hown.cells (g := g) rfl
      have hgr := grown cap (by omega) (Value.ownBlock (.slice (some ⟨g, 0, none⟩) n cap))
      have hold : (Builtin.firstCells 1 n (.slice (some ⟨g, 0, none⟩) n cap)).run P w.drew = .ok xs.toArray w.drew := run_firstCells_some w.drew 1 n ⟨g, 0, none⟩ n cap xs (by simpa using hxl) (by simpa using holds)
      have h48' : ¬ (281474976710656 < Builtin.nextslicecap (n + m) cap * i.bytes) := by have := growslice_fits (old := cap) (need := n + m) (bytes := i.bytes) (by omega) hbytes; omega
      have h63' : ¬ (9223372036854775807 < ((n : Int) + (m : Int))) := by omega
      refine ⟨_, _, ?_, hgr.1, hgr.2, .inr rfl⟩
      simp [Builtin.append_, run_underlying ht, run_underlying htn, sizeOf, typeInfo, zeroValue, hi, hz, hsize, asInt, asIntOf, hw, hneg, hm0, h48i, hroom, h63', h48', hold, zeroCells_one z hzs, Question.forced, newRow, grownCap]
end Go.Proofs.YtemegkapmgcffaaGreat

/- The disk: Concat of two. -/
namespace Go.Proofs.YtemegkapmgcffaaGreat
open Go.RowKit
set_option linter.unusedSimpArgs false
set_option linter.unusedVariables false

theorem own_cut0 {base n c : Nat} {w : World} {A : Option Addr} {cs : List Value} (h : Own base 5 1 w A n c cs) : Own base 5 1 w A 0 c [] := by
  refine ⟨rfl, ?_⟩
  rcases h.2 with ⟨h1, h2⟩ | ⟨g, cap, cur, h1, h2, h3, h4, h5, h6, h7⟩
  · subst h2
    exact .inl ⟨h1, rfl⟩
  · simp only [Value.slice.injEq] at h1
    obtain ⟨rfl, -, rfl⟩ := h1
    exact .inr ⟨g, c, cur, rfl, h2, h3, by omega, h5, h6, by simp⟩
set_option maxRecDepth 100000 in
set_option maxHeartbeats 4000000 in
theorem grow_any (n : Nat) (w : World) (hn : n ≤ 1000000000) :
    Calls Tryz.prog 83 #[.slice none 0 0, .int .i64 (n : Int)] w fun x w' => ∃ A c, x = .returned (.slice A 0 c) ∧ Own w.heap.size 5 1 w' A 0 c [] ∧ Below w.heap.size w w' := by
  obtain ⟨i0, hi, hz0, hz1, hz2⟩ := info_parts infoByteC
  by_cases h0 : n = 0
  · subst h0
    go_enter Tryz.func83, Tryz.ntmps83
    go_wp2_with fail
    go_ret
    exact ⟨none, 0, rfl, ⟨rfl, .inl ⟨rfl, rfl⟩⟩, Below.refl _ _⟩
  · obtain ⟨v', w3, hrun, o3, hg3, hob⟩ := run_append_own_zeros (P := Tryz.prog) w w.heap.size 34 3 34 5 i0 (.int .u8 0) 1 .i64 Tryz.underlying34 Tryz.underlying3 hi hz0 hz1 hz2 rfl rfl (.slice none 0 0) 0 [] ⟨rfl, .inl ⟨rfl, rfl⟩⟩ n (by omega) (by unfold maxLen; omega) (by omega) (Nat.le_refl _)
    obtain ⟨A3, c3, rfl, o4⟩ := ownsRow_sliceI o3
    have hle := o4.sl.le
    have hle3 : (0 : Int) ≤ (c3 : Int) := by omega
    have hpos : 0 < (n : Int) := by omega
    have HR := Lib.hid hrun
    have HO := Lib.hid (own_cut0 o4)
    have HB := Lib.hid ((Below.refl w.heap.size w).grown hg3 (Nat.le_refl _) (fun k hk => by simp [Value.ownBlock] at hk))
    clear hrun o3 o4 hg3 hob
    go_enter Tryz.func83, Tryz.ntmps83
    go_wp2_with (at_builtin; refine Lib.wpList_append_run _ rfl _ _ _ _ rfl _ _ rfl rfl _ _ HR.out ?_)
    go_ret
    exact ⟨A3, c3, rfl, HO.out, HB.out⟩
theorem run_append_own_sl {base n c m c' : Nat} {w : World} {A B : Option Addr} {l1 l2 : List UInt8} (ho : Own base 5 1 w A n c (bytesV l1)) (hs : Sl w 1 B m c' (bytesV l2)) (h1 : n + m ≤ 1000000000) (hbase : base ≤ w.heap.size) :
    ∃ A' d w', (Builtin.append_ #[34, 34] 34 #[.slice A n c, .slice B m c']).run Tryz.prog w = .ok (.slice A' (n + m) d) w' ∧ Own base 5 1 w' A' (n + m) d (bytesV (l1 ++ l2)) ∧ Below base w w' := by
  obtain ⟨i0, hi, hz0, hz1, hz2⟩ := info_parts infoByteC
  cases B with
  | none =>
    obtain ⟨rfl, rfl⟩ := hs.none rfl
    have hn : l2 = [] := List.eq_nil_of_length_eq_zero hs.blen
    subst hn
    exact ⟨A, c, w, run_append_owned_none (P := Tryz.prog) (w := w) base 34 34 5 i0 1 Tryz.underlying34 hi _ n _ ho, by rw [List.append_nil]; exact ho, Below.refl _ _⟩
  | some b =>
    obtain ⟨v', w', hrun, h2, h3, h4, h5⟩ := run_append_own_at (P := Tryz.prog) w base 34 34 5 i0 (.int .u8 0) 1 1 Tryz.underlying34 hi hz0 hz1 hz2 rfl (by decide) (.slice A n c) n (bytesV l1) ho b m c' (bytesV l2) hs.len
        (fun j u hj => by obtain ⟨ad, e, h⟩ := hs.cells j u hj; cases e; exact h) (bytesV_one l2) (by unfold maxLen; omega) (by omega) hbase
    obtain ⟨A', d, rfl, h6⟩ := ownsRow_sliceI h2
    exact ⟨A', d, w', hrun, by rw [bytesV_append]; exact h6, (Below.refl _ _).grown h3 hbase (fun q hq => ownBlock_ge ho hq)⟩
set_option maxRecDepth 100000 in
set_option maxHeartbeats 4000000 in
theorem concat_any (base r : Nat) (A1 A2 : Option Addr) (n1 c1 n2 c2 : Nat) (l1 l2 : List UInt8) (w : World) (hx0 : w.cell? ⟨r, 0, none⟩ = some (.slice A1 n1 c1)) (hx1 : w.cell? ⟨r, 1, none⟩ = some (.slice A2 n2 c2))
    (s1 : Sl w 1 A1 n1 c1 (bytesV l1)) (s2 : Sl w 1 A2 n2 c2 (bytesV l2)) (h1 : n1 ≤ 100000000) (h2 : n2 ≤ 100000000) (hbase : base ≤ w.heap.size) :
    Calls Tryz.prog 39 #[.slice (some ⟨r, 0, none⟩) 2 2] w fun x w' => ∃ A c, x = .returned (.slice A (n1 + n2) c) ∧ Own base 5 1 w' A (n1 + n2) c (bytesV (l1 ++ l2)) ∧ Below w.heap.size w w' := by
  obtain ⟨i0, hi, hz0, hz1, hz2⟩ := info_parts infoByteC
  go_enter Tryz.func39, Tryz.ntmps39
  go_wp2_with fail
  go_loopw [3, 11] (fun s3 s11 wx => w = wx ∧ ((s11 = .int .i64 0 ∧ s3 = .int .i64 0) ∨ (s11 = .int .i64 1 ∧ s3 = .int .i64 (n1 : Int)) ∨ (s11 = .int .i64 2 ∧ s3 = .int .i64 ((n1 + n2 : Nat) : Int)))) (fun _ iv _ => 2 - (intOf iv).toNat)
  case atStart => exact ⟨rfl, .inl ⟨rfl, rfl⟩⟩
  case round =>
    obtain ⟨rfl, ⟨rfl, rfl⟩ | ⟨rfl, rfl⟩ | ⟨rfl, rfl⟩⟩ := hrel
    · go_wp2_with fail
      go_roundw
      case rel => exact ⟨trivial, .inr (.inl ⟨rfl, rfl⟩)⟩
      case measure => simp [intOf]
    · go_wp2_with fail
      go_roundw
      case rel => exact ⟨trivial, .inr (.inr ⟨rfl, by simp⟩)⟩
      case measure => simp [intOf]
    · go_wp2_with fail
      refine (grow_any (n1 + n2) w (by omega)).mono ?_
      rintro x w2 ⟨A, c, rfl, ho, hb⟩
      have HB := Lib.hid hb
      have HO := Lib.hid ho
      clear ho hb
      clear hz0 hz1 hz2 hi
      go_wp2_with fail
      go_loopw [6, 27] (fun s6 s27 wx => ∃ (Aj : Option Addr) (cj j : Nat), s27 = .int .i64 (j : Int) ∧ Hid (Below w.heap.size w wx) ∧ ((j = 0 ∧ s6 = .slice Aj 0 cj ∧ Hid (Own w.heap.size 5 1 wx Aj 0 cj (bytesV []))) ∨ (j = 1 ∧ s6 = .slice Aj n1 cj ∧ Hid (Own w.heap.size 5 1 wx Aj n1 cj (bytesV l1))) ∨ (j = 2 ∧ s6 = .slice Aj (n1 + n2) cj ∧ Hid (Own w.heap.size 5 1 wx Aj (n1 + n2) cj (bytesV (l1 ++ l2)))))) (fun _ iv _ => 2 - (intOf iv).toNat)
      case atStart => exact ⟨A, c, 0, rfl, HB, .inl ⟨rfl, rfl, HO⟩⟩
      case round =>
        obtain ⟨Aj, cj, j, rfl, HBx, ⟨rfl, rfl, HOx⟩ | ⟨rfl, rfl, HOx⟩ | ⟨rfl, rfl, HOx⟩⟩ := hrel
        · have z0 := cellB HBx.out hx0
          have z1 := s1.below HBx.out
          obtain ⟨A', d, w5, hr, ho5, hb5⟩ := run_append_own_sl HOx.out z1 (by omega) HBx.out.size
          simp only [Nat.zero_add] at hr ho5
          have HR := Lib.hid hr
          have HO5 := Lib.hid (show Own w.heap.size 5 1 w5 A' n1 d (bytesV l1) by simpa using ho5)
          have HB5 := Lib.hid (HBx.out.trans hb5)
          clear hr ho5 hb5 z1
          go_wp2_with (at_builtin; refine Lib.wpList_append_run _ rfl _ _ _ _ rfl _ _ rfl rfl _ _ HR.out ?_)
          go_roundw
          case rel => exact ⟨A', d, 1, rfl, HB5, .inr (.inl ⟨rfl, rfl, HO5⟩)⟩
          case measure => simp [intOf]
        · have z0 := cellB HBx.out hx1
          have z1 := s2.below HBx.out
          obtain ⟨A', d, w5, hr, ho5, hb5⟩ := run_append_own_sl HOx.out z1 (by omega) HBx.out.size
          have HR := Lib.hid hr
          have HO5 := Lib.hid ho5
          have HB5 := Lib.hid (HBx.out.trans hb5)
          clear hr ho5 hb5 z1
          go_wp2_with (at_builtin; refine Lib.wpList_append_run _ rfl _ _ _ _ rfl _ _ rfl rfl _ _ HR.out ?_)
          go_roundw
          case rel => exact ⟨A', d, 2, rfl, HB5, .inr (.inr ⟨rfl, rfl, HO5⟩)⟩
          case measure => simp [intOf]
        · go_wp2_with fail
          go_ret
          exact ⟨Aj, cj, rfl, Own.lower HOx.out hbase, HBx.out⟩
end Go.Proofs.YtemegkapmgcffaaGreat

/- The disk: Append. -/
namespace Go.Proofs.YtemegkapmgcffaaGreat
open Go.RowKit
set_option linter.unusedSimpArgs false
set_option linter.unusedVariables false

theorem Good.setU {D : Dk} {k : Nat} {f f' : Fl} (h : Good D) (hf : D.fs[k]? = some f) (hn : f'.nm = f.nm) (hb : ((usedF D.fs : Int) + f'.b.length ≤ D.room + f.b.length)) (hs : f'.safe ≤ f'.b.length) : Good { D with fs := D.fs.set k f' } := by
  refine ⟨srt_set h.srt hf hn, h.room, h.fuse, by simpa using h.few, fun x hx => ?_, ?_, fun x hx => ?_⟩
  · rcases List.mem_or_eq_of_mem_set hx with h1 | rfl
    · exact h.safe x h1
    · exact hs
  · have := used_set (f' := f') hf
    have := h.used
    simp only
    omega
  · rcases List.mem_or_eq_of_mem_set hx with h1 | rfl
    · exact h.nms x h1
    · rw [hn]; exact h.nms f (List.mem_of_getElem? hf)
/-- a row of one new file -/
def isNf (N : Nat) (s : ByteArray) : Value → World → Prop := fun v w => ∃ vb, v = .slice (some ⟨vb, 0, none⟩) 1 1 ∧ N ≤ vb ∧ w.heap[vb]? = some (.cells #[.string s, .slice none 0 0, .int .i64 0] 79 (0, 0))
theorem isNf_elim {N : Nat} {s : ByteArray} {v : Value} {w : World} (h : isNf N s v w) : ∃ vb, v = .slice (some ⟨vb, 0, none⟩) 1 1 ∧ N ≤ vb ∧ w.heap[vb]? = some (.cells #[.string s, .slice none 0 0, .int .i64 0] 79 (0, 0)) := h
theorem isNf_mk {N : Nat} {s : ByteArray} {w : World} (h : N ≤ w.heap.size) : isNf N s (.slice (some ⟨w.heap.size, 0, none⟩) 1 1) (w.alloc (.cells #[.string s, .slice none 0 0, .int .i64 0] 79)) := ⟨_, rfl, h, heap_alloc_new w _⟩
theorem isNf_stable {N : Nat} {s : ByteArray} {F : Nat → Prop} (hF : ∀ q, F q → q < N) : StableR (Cg F F) (isNf N s) := fun _ _ _ hr ⟨vb, h1, h2, h3⟩ => ⟨vb, h1, h2, (hr.block _ (Array.getElem?_eq_some_iff.1 h3).1 (fun hf => by have := hF _ hf; omega)).trans h3⟩
def insE (es : List FE) (k : Nat) (nm : Nm) : List FE := es.take k ++ ⟨⟨nm, [], 0⟩, none, 0⟩ :: es.drop k
theorem insE_len {es : List FE} {k : Nat} {nm : Nm} (hk : k ≤ es.length) : (insE es k nm).length = es.length + 1 := by
  unfold insE
  simp only [List.length_append, List.length_take, List.length_cons, List.length_drop]
  omega
/-- the row with the new file, the disk not told yet -/
def JIns (base p : Nat) (D : Dk) (F : Nat → Prop) (R : Option Addr) (c : Nat) (es : List FE) (k : Nat) (nm : Nm) (A1 : Option Addr) (c1 : Nat) (W w : World) : Prop :=
  ∃ w0, DI w0 base p D F R c es ∧ W.heap.size ≤ w0.heap.size ∧ Cg (Gr R) (Gr R) w0 w ∧ Own base 79 3 w A1 (es.length + 1) c1 (flatFE (insE es k nm)) ∧ (∀ a, A1 = some a → (∃ r, R = some r ∧ r.block = a.block) ∨ w0.heap.size ≤ a.block)
section
variable {base p : Nat} {D : Dk} {F : Nat → Prop} {R : Option Addr} {c : Nat} {es : List FE} {k : Nat} {nm : Nm} {A1 : Option Addr} {c1 : Nat} {W w w' : World}
theorem JIns_below (h : JIns base p D F R c es k nm A1 c1 W w) (hb : Below w.heap.size w w') : JIns base p D F R c es k nm A1 c1 W w' := by
  obtain ⟨w0, h1, h2, h3, h4, h5⟩ := h
  exact ⟨w0, h1, h2, h3.trans (Cg.below hb), h4.below hb, h5⟩
def JInsV (base p : Nat) (D : Dk) (F : Nat → Prop) (R : Option Addr) (c : Nat) (es : List FE) (k : Nat) (nm : Nm) (W : World) (v : Value) (w : World) : Prop := ∃ A1 c1, v = .slice A1 (es.length + 1) c1 ∧ JIns base p D F R c es k nm A1 c1 W w
theorem JIns_such (h : DI w base p D F R c es) (hb : Cg F F W w) (hF : ∀ q, F q → q < W.heap.size) {vb : Nat} (hv : W.heap.size ≤ vb) (hx : w.heap[vb]? = some (.cells #[.string (bstr nm), .slice none 0 0, .int .i64 0] 79 (0, 0))) (hk : k ≤ es.length) :
    Calls Tryz.prog 38 #[.slice R es.length c, .int .i64 (k : Int), .slice (some ⟨vb, 0, none⟩) 1 1] w fun e w' => ∃ v, e = .returned v ∧ Cg F F w w' ∧ JInsV base p D F R c es k nm W v w' := by
  have hl := h.len
  have hbase := h.plt
  refine (insF_any base R es.length c k vb (flatFE es) [.string (bstr nm), .slice none 0 0, .int .i64 0] w h.row (by omega) hk (fun a ha => by have := hF _ (h.fr a ha).1; omega) hx rfl (fun u hu => by simp at hu; rcases hu with rfl | rfl | rfl <;> rfl) (flatFE_one _) (by omega)).mono ?_
  rintro e w' ⟨A', c', rfl, hrow, hg, hl5⟩
  have hfi := flat_ins es k ⟨⟨nm, [], 0⟩, none, 0⟩
  simp only at hfi
  have hcg : Cg (Gr R) (Gr R) w w' := by
    cases R with
    | none => exact Cg.below ⟨hg.os, hg.tape, hg.output, hg.size, fun q hq => hg.block q hq (by simp [rowOf])⟩
    | some r =>
      have hr := own_lt h.row r rfl
      have : rowOf base (some r) = some r.block := by simp [rowOf, hr.1]
      rw [this] at hg
      exact Cg.grown hg ⟨r, rfl, rfl⟩
  refine ⟨_, rfl, ?_, A', c', rfl, w, h, hb.size, hcg, ?_, hl5⟩
  · exact ⟨hcg.os, hcg.tape, hcg.output, hcg.size, fun q hq hf => hcg.block q hq (fun ⟨r, h1, h2⟩ => hf (by rw [h2]; exact (h.fr r h1).1)), fun q hq => .inl hq⟩
  · exact (show (flatFE es).take (k * 3) ++ ([.string (bstr nm), .slice none 0 0, .int .i64 0] ++ (flatFE es).drop (k * 3)) = flatFE (insE es k nm) from hfi) ▸ hrow
def JNew (base p : Nat) (D : Dk) (F : Nat → Prop) (es : List FE) (N : Nat) (w : World) : Prop := ∃ F' A1 c1, DI w base p D F' A1 c1 es ∧ ∀ q, F' q → F q ∨ N ≤ q
theorem JIns_store (h : JIns base p D F R c es k nm A1 c1 W w) (hk : k ≤ es.length) (hgd : Good { D with fs := insF D.fs k ⟨nm, [], 0⟩ }) :
    w.cell? ⟨p, 0, none⟩ = some (.slice R es.length c) ∧ w.frozen? ⟨p, 0, none⟩ = false ∧ Cg F F w (w.setCell ⟨p, 0, none⟩ (.slice A1 (es.length + 1) c1)) ∧
      JNew base p { D with fs := insF D.fs k ⟨nm, [], 0⟩ } F (insE es k nm) W.heap.size (w.setCell ⟨p, 0, none⟩ (.slice A1 (es.length + 1) c1)) := by
  obtain ⟨w0, h0, hs, hc, hr, hl⟩ := h
  have hlen := insE_len (nm := nm) hk
  have hfs : (insE es k nm).map FE.f = insF D.fs k ⟨nm, [], 0⟩ := by
    unfold insE insF
    rw [List.map_append, List.map_cons, List.map_take, List.map_drop, h0.fs]
  obtain ⟨q0, q1, F', q2, q3⟩ := h0.newrow (w5 := w) (A' := A1) (c' := c1) (es' := insE es k nm) hc (by rw [hlen]; exact hr) hl (fun x hx => by
    unfold insE at hx
    simp only [List.mem_append, List.mem_cons] at hx
    rcases hx with hx | rfl | hx
    · exact .inl ⟨x, List.mem_of_mem_take hx, rfl, rfl, rfl⟩
    · exact .inr ⟨rfl, rfl, rfl⟩
    · exact .inl ⟨x, List.mem_of_mem_drop hx, rfl, rfl, rfl⟩) (by rw [hfs]; exact hgd)
  rw [hlen] at q2 q3
  rw [hfs] at q2
  have hGp : ¬ Gr R p := fun ⟨r, h1, h2⟩ => (h0.fr r h1).2 h2.symm
  have ho := own_same h0.own (w' := w) (fun a ha => by cases ha; exact hc.block _ h0.plt.2 hGp)
  have st := World.ownsRow.stored ho 0 (.slice A1 (es.length + 1) c1)
  exact ⟨q0, q1, Cg.grown st.2 h0.fp, F', A1, c1, q2, fun q hq => by
    rcases q3.new q hq with h1 | h1
    · exact .inl h1
    · exact .inr (by omega)⟩
end
/-- two slices, written out -/
def isTwo (N : Nat) (a b : Value) : Value → World → Prop := fun v w => ∃ vb, v = .slice (some ⟨vb, 0, none⟩) 2 2 ∧ N ≤ vb ∧ w.cell? ⟨vb, 0, none⟩ = some a ∧ w.cell? ⟨vb, 1, none⟩ = some b
theorem isTwo_elim {N : Nat} {a b : Value} {v : Value} {w : World} (h : isTwo N a b v w) : ∃ vb, v = .slice (some ⟨vb, 0, none⟩) 2 2 ∧ N ≤ vb ∧ w.cell? ⟨vb, 0, none⟩ = some a ∧ w.cell? ⟨vb, 1, none⟩ = some b := h
theorem isTwo_mk {N : Nat} {a b : Value} {w : World} {t : TypeId} (h : N ≤ w.heap.size) : isTwo N a b (.slice (some ⟨w.heap.size, 0, none⟩) 2 2) (w.alloc (.cells #[a, b] t)) := by
  have hx := heap_alloc_new w (.cells #[a, b] t)
  exact ⟨_, rfl, h, by unfold World.cell?; simp only [hx]; rfl, by unfold World.cell?; simp only [hx]; rfl⟩
theorem isTwo_stable {N g : Nat} {a b : Value} (hg : g < N) : StableR (Cg (Gk g) (Gk g)) (isTwo N a b) := fun _ w w' hr ⟨vb, h1, h2, h3, h4⟩ => by
  have key : ∀ o u, w.cell? ⟨vb, o, none⟩ = some u → w'.cell? ⟨vb, o, none⟩ = some u := fun o u hu => (World.cell?_of_block (hr.block vb (World.block_lt_of_cell? _ _ hu) (fun e => by unfold Gk at e; omega))).trans hu
  exact ⟨vb, h1, h2, key _ _ h3, key _ _ h4⟩
theorem concat_such {N r : Nat} {A1 A2 : Option Addr} {n1 c1 n2 c2 : Nat} {l1 l2 : List UInt8} {w : World} (hN : N ≤ w.heap.size) (hx0 : w.cell? ⟨r, 0, none⟩ = some (.slice A1 n1 c1)) (hx1 : w.cell? ⟨r, 1, none⟩ = some (.slice A2 n2 c2))
    (s1 : Sl w 1 A1 n1 c1 (bytesV l1)) (s2 : Sl w 1 A2 n2 c2 (bytesV l2)) (h1 : n1 ≤ 100000000) (h2 : n2 ≤ 100000000) :
    Calls Tryz.prog 39 #[.slice (some ⟨r, 0, none⟩) 2 2] w fun e w' => ∃ v, e = .returned v ∧ Below w.heap.size w w' ∧ isCl N (n1 + n2) (l1 ++ l2) v w' :=
  (concat_any N r A1 A2 n1 c1 n2 c2 l1 l2 w hx0 hx1 s1 s2 h1 h2 hN).mono fun e w' ⟨A, c, h1, h2, h3⟩ => ⟨_, h1, h3, A, c, rfl, h2⟩
theorem app_store {B base p : Nat} {D : Dk} {F : Nat → Prop} {g c : Nat} {es : List FE} {k n2 : Nat} {e : FE} {bs : List UInt8} {w : World} {A' : Option Addr} {c' : Nat} (h : DI w base p D F (some ⟨g, 0, none⟩) c es) (he : es[k]? = some e)
    (ho : Own B 5 1 w A' (e.f.b.length + n2) c' (bytesV (e.f.b ++ bs))) (hB : B ≤ w.heap.size) (hFB : ∀ q, F q → q < B) (hgd : Good { D with fs := D.fs.set k ⟨e.f.nm, e.f.b ++ bs, e.f.safe⟩ }) :
    w.cell? ⟨g, k * 3 + 1, none⟩ = some (.slice e.A e.f.b.length e.c) ∧ w.frozen? ⟨g, k * 3 + 1, none⟩ = false ∧ Cg (Gk g) (Gk g) w (w.setCell ⟨g, k * 3 + 1, none⟩ (.slice A' (e.f.b.length + n2) c')) ∧
      ∃ F', DkIs (w.setCell ⟨g, k * 3 + 1, none⟩ (.slice A' (e.f.b.length + n2) c')) base p { D with fs := D.fs.set k ⟨e.f.nm, e.f.b ++ bs, e.f.safe⟩ } F' ∧ ∀ q, F' q → F q ∨ B ≤ q := by
  obtain ⟨y0, y1, y2⟩ := slFE_three h.row.sl he
  rw [add_plain] at y1
  have hlen : (e.f.b ++ bs).length = e.f.b.length + n2 := by have := ho.sl.blen; exact this
  have st := World.ownsRow.stored h.row (k * 3 + 1) (.slice A' (e.f.b.length + n2) c')
  have hpB := hFB p h.fp
  have hgB := hFB g (h.fr _ rfl).1
  have hw := h.widen (F' := fun q => F q ∨ ∃ a, A' = some a ∧ q = a.block) (fun q hq => .inl hq) (fun q hq => by
    rcases hq with hq | ⟨a, ha, rfl⟩
    · exact h.bound q hq
    · have := own_lt ho a ha; have := h.plt; omega)
  have hfin := hw.rowed (e' := ⟨⟨e.f.nm, e.f.b ++ bs, e.f.safe⟩, A', c'⟩) rfl he st.2 (by
      have := flat_set (e' := ⟨⟨e.f.nm, e.f.b ++ bs, e.f.safe⟩, A', c'⟩) he 1 (.slice A' (e.f.b.length + n2) c') (by omega) (by simp only [feC, hlen]; rfl)
      rw [this]; exact st.1) hgd ⟨by
      simp only [hlen]
      exact (own_same ho (fun a ha => st.2.block _ (own_lt ho a ha).2 (fun e2 => by have := (own_lt ho a ha).1; have := Option.some.inj e2; omega))).sl, fun a ha => ⟨.inr ⟨a, ha, rfl⟩, by have := (own_lt ho a ha).1; omega, by have := (own_lt ho a ha).1; omega⟩⟩
  refine ⟨y1, World.ownsRow.frozenAt h.row _, Cg.grown st.2 rfl, _, ⟨_, _, _, hfin.1⟩, fun q hq => ?_⟩
  rcases hq with hq | ⟨a, ha, rfl⟩
  · exact .inl hq
  · exact .inr (own_lt ho a ha).1
section
variable {W : World} {base p : Nat} {D : Dk} {F : Nat → Prop} {R : Option Addr} {c : Nat} {es : List FE}
set_option maxRecDepth 100000 in
set_option maxHeartbeats 8000000 in
/-- the file is there: its bytes grow -/
theorem app1b_any (hI : DI W base p D F R c es) {ob db ib nb bb : Nat} {k : Nat} {e : FE} (he : es[k]? = some e) {nm : Nm} {B : Option Addr} {n2 c2 : Nat} {bs : List UInt8}
    (ho : W.cell? ⟨ob, 0, none⟩ = some (.bool true)) (hd : W.cell? ⟨db, 0, none⟩ = some (.pointer (some ⟨p, 0, none⟩))) (hi : W.cell? ⟨ib, 0, none⟩ = some (.int .i64 (k : Int))) (hb : W.cell? ⟨bb, 0, none⟩ = some (.slice B n2 c2))
    (hdF : ¬ F db) (hiF : ¬ F ib) (hbF : ¬ F bb) (sB : Sl W 1 B n2 c2 (bytesV bs)) (hBF : ∀ a, B = some a → bs ≠ [] → ¬ F a.block) (hroom : (usedF D.fs : Int) + bs.length ≤ D.room) :
    Calls Tryz.prog 37 #[.pointer (some ⟨ob, 0, none⟩), .pointer (some ⟨db, 0, none⟩), .pointer (some ⟨ib, 0, none⟩), .pointer (some ⟨nb, 0, none⟩), .pointer (some ⟨bb, 0, none⟩)] W fun x w' => x = .returned (.tuple #[]) ∧ ∃ F', DkIs w' base p { D with fs := D.fs.set k ⟨e.f.nm, e.f.b ++ bs, e.f.safe⟩ } F' ∧ Cg F F' W w' := by
  obtain ⟨g, rfl⟩ := rowAddr hI he
  have hk := (List.getElem?_eq_some_iff.1 he).1
  have hl200 := hI.len
  have hfg := hI.fr _ rfl
  have hin : (0 : Int) ≤ (k : Int) ∧ (k : Int) < (es.length : Int) := by omega
  have hk3 : k < 200 := by omega
  have hsa := hI.fsAt he
  have hle : e.f.b.length ≤ usedF D.fs := by
    have := used_set (f' := ⟨e.f.nm, [], 0⟩) hsa
    simp only [List.length_nil] at this
    omega
  have hrm := hI.good.room
  have hl1 : e.f.b.length ≤ 100000000 := by omega
  have hbl := sB.blen
  have hl2 : n2 ≤ 100000000 := by omega
  have H1 := Lib.hid hI
  have Hgd := Lib.hid (show Good { D with fs := D.fs.set k ⟨e.f.nm, e.f.b ++ bs, e.f.safe⟩ } from hI.good.setU hsa rfl (by simp only [List.length_append]; omega) (by have := hI.good.safe e.f (List.mem_of_getElem? hsa); simp only [List.length_append]; omega))
  have HF1 := Lib.hid (show ∀ q, F q → q < W.heap.size from fun q hq => (hI.bound q hq).2)
  have HC0 := Lib.hid hI.cell.1
  have hpg : ¬ Gk g p := fun e2 => hfg.2 e2.symm
  have hgB : g < W.heap.size := (hI.bound g hfg.1).2
  have ng : ∀ q, ¬ F q → ¬ Gk g q := fun q hq e2 => hq (by unfold Gk at e2; rw [e2]; exact hfg.1)
  have hdg := ng _ hdF
  have hig := ng _ hiF
  have hbg := ng _ hbF
  have Hs1 := Lib.hid (show ∀ w, Cg (Gk g) (Gk g) W w → Sl w 1 e.A e.f.b.length e.c (bytesV e.f.b) from fun w hw => sl_same (hI.each e (List.mem_of_getElem? he)).1 (fun a ha => hw.block _ (hI.bound _ ((hI.each e (List.mem_of_getElem? he)).2 a ha).1).2 (fun e2 => ((hI.each e (List.mem_of_getElem? he)).2 a ha).2.2 _ rfl e2)))
  have Hs2 := Lib.hid (show ∀ w, Cg (Gk g) (Gk g) W w → Sl w 1 B n2 c2 (bytesV bs) from fun w hw => by
    by_cases h0 : n2 = 0
    · subst h0
      have hn : bs = [] := List.eq_nil_of_length_eq_zero sB.blen
      subst hn
      exact ⟨fun j u hj => by simp [bytesV] at hj, rfl, sB.le, sB.none⟩
    · refine sl_same sB (fun a ha => ?_)
      subst ha
      obtain ⟨x, hx⟩ := get_some bs 0 (by omega)
      obtain ⟨ad, h1, h2⟩ := sB.byteAt hx
      cases h1
      have := World.block_lt_of_cell? _ _ h2
      rw [add_block] at this
      exact hw.block _ this (ng _ (hBF a rfl (by rintro rfl; simp at hx))))
  have HD1 := Lib.hid hd
  have HI1 := Lib.hid hi
  have HB1 := Lib.hid hb
  have HO1 := Lib.hid ho
  clear hI hd hi hb sB hBF hsa ng hroom hrm hle hbl
  obtain ⟨D1, hD1⟩ : ∃ D1, D1 = D := ⟨_, rfl⟩
  obtain ⟨F1, hF1⟩ : ∃ F1, F1 = F := ⟨_, rfl⟩
  obtain ⟨W1, hW1⟩ : ∃ W1, W1 = W := ⟨_, rfl⟩
  subst hD1 hF1 hW1
  obtain ⟨es1, hes1⟩ : ∃ es1, es1 = es := ⟨_, rfl⟩
  obtain ⟨c1, hc1⟩ : ∃ c1, c1 = c := ⟨_, rfl⟩
  subst hes1 hc1
  go_enter Tryz.func37, Tryz.ntmps37
  go_upto_region 2 with fail
  --@region 85 2 app2.spec
  refine wp_region_runN [12, 18] (fun _ w => DI w base p D1 F1 (some ⟨g, 0, none⟩) c1 es1) (by kernel_rfl) (by kernel_rfl) (by kernel_rfl) (R := Cg (Gk g) (Gk g)) (fun _ _ h => Cg.below h) (fun _ _ _ => Cg.trans) (fun _ _ _ hb hj => DI.below hj hb) H1.out ?_
  apply RunN.pure (by decide)
  · intro vs w hb hd; clear hd; have hx1 := box_kept hb HD1.out hdg; simp only [List.take, putL, Act.put, List.setIfInBounds_toArray, List.set_cons_zero, List.set_cons_succ]; unfold StepOK; go_simp; exact ⟨Below.refl _ _, isV_mk _ _⟩
  apply RunN.pure (by decide)
  · intro vs w hb hd; have d0 : isV _ (vs 0) w := hd 0 (by decide) (by kernel_rfl); unfold isV at d0; clear hd; simp only [List.take, putL, Act.put, List.setIfInBounds_toArray, List.set_cons_zero, List.set_cons_succ]; unfold StepOK; go_simp; exact ⟨Below.refl _ _, isV_mk _ _⟩
  apply RunN.pure (by decide)
  · intro vs w hb hd; have d1 : isV _ (vs 1) w := hd 1 (by decide) (by kernel_rfl); unfold isV at d1; clear hd; simp only [List.take, putL, Act.put, List.setIfInBounds_toArray, List.set_cons_zero, List.set_cons_succ]; unfold StepOK; go_simp; exact ⟨Below.refl _ _, isV_mk _ _⟩
  apply RunN.pure (by decide)
  · intro vs w hb hd; have d2 : isV _ (vs 2) w := hd 2 (by decide) (by kernel_rfl); unfold isV at d2; clear hd; have hx1 := box_kept hb HC0.out hpg; simp only [List.take, putL, Act.put, List.setIfInBounds_toArray, List.set_cons_zero, List.set_cons_succ]; unfold StepOK; go_simp; exact ⟨Below.refl _ _, isV_mk _ _⟩
  apply RunN.pure (by decide)
  · intro vs w hb hd; clear hd; have hx1 := box_kept hb HI1.out hig; simp only [List.take, putL, Act.put, List.setIfInBounds_toArray, List.set_cons_zero, List.set_cons_succ]; unfold StepOK; go_simp; exact ⟨Below.refl _ _, isV_mk _ _⟩
  apply RunN.pure (by decide)
  · intro vs w hb hd; clear hd; have hx1 := box_kept hb HD1.out hdg; simp only [List.take, putL, Act.put, List.setIfInBounds_toArray, List.set_cons_zero, List.set_cons_succ]; unfold StepOK; go_simp; exact ⟨Below.refl _ _, isV_mk _ _⟩
  apply RunN.pure (by decide)
  · intro vs w hb hd; have d5 : isV _ (vs 5) w := hd 5 (by decide) (by kernel_rfl); unfold isV at d5; clear hd; simp only [List.take, putL, Act.put, List.setIfInBounds_toArray, List.set_cons_zero, List.set_cons_succ]; unfold StepOK; go_simp; exact ⟨Below.refl _ _, isV_mk _ _⟩
  apply RunN.pure (by decide)
  · intro vs w hb hd; have d6 : isV _ (vs 6) w := hd 6 (by decide) (by kernel_rfl); unfold isV at d6; clear hd; simp only [List.take, putL, Act.put, List.setIfInBounds_toArray, List.set_cons_zero, List.set_cons_succ]; unfold StepOK; go_simp; exact ⟨Below.refl _ _, isV_mk _ _⟩
  apply RunN.pure (by decide)
  · intro vs w hb hd; have d7 : isV _ (vs 7) w := hd 7 (by decide) (by kernel_rfl); unfold isV at d7; clear hd; have hx1 := box_kept hb HC0.out hpg; simp only [List.take, putL, Act.put, List.setIfInBounds_toArray, List.set_cons_zero, List.set_cons_succ]; unfold StepOK; go_simp; exact ⟨Below.refl _ _, isV_mk _ _⟩
  apply RunN.pure (by decide)
  · intro vs w hb hd; clear hd; have hx1 := box_kept hb HI1.out hig; simp only [List.take, putL, Act.put, List.setIfInBounds_toArray, List.set_cons_zero, List.set_cons_succ]; unfold StepOK; go_simp; exact ⟨Below.refl _ _, isV_mk _ _⟩
  apply RunN.pure (by decide)
  · intro vs w hb hd; have d8 : isV _ (vs 8) w := hd 8 (by decide) (by kernel_rfl); unfold isV at d8; have d9 : isV _ (vs 9) w := hd 9 (by decide) (by kernel_rfl); unfold isV at d9; clear hd; simp only [List.take, putL, Act.put, List.setIfInBounds_toArray, List.set_cons_zero, List.set_cons_succ]; unfold StepOK; go_simp; exact ⟨Below.refl _ _, isV_mk _ _⟩
  apply RunN.pure (by decide)
  · intro vs w hb hd; have d10 : isV _ (vs 10) w := hd 10 (by decide) (by kernel_rfl); unfold isV at d10; clear hd; simp only [List.take, putL, Act.put, List.setIfInBounds_toArray, List.set_cons_zero, List.set_cons_succ]; unfold StepOK; go_simp; exact ⟨Below.refl _ _, isV_mk _ _⟩
  refine RunN.effV (c := (.slice e.A e.f.b.length e.c)) (by decide) ((fun v w => v = .slice e.A e.f.b.length e.c ∧ DI w base p D1 F1 (some ⟨g, 0, none⟩) c1 es1)) (fun _ _ _ hb hj => ⟨hj.1, DI.below hj.2 hb⟩) (by rfl) (fun v w h => h.1) ?_ ?_
  · intro vs w hb hd hj; have d11 : isV _ (vs 11) w := hd 11 (by decide) (by kernel_rfl); unfold isV at d11; clear hd; have hj2 := hj; (try simp only [prevE, lastV, List.mem_cons, List.not_mem_nil, or_false, Nat.reduceEqDiff, Nat.reduceAdd, if_true, if_false, reduceIte, or_true, true_or, or_self] at hj2); clear hj; obtain ⟨y0, y1, y2⟩ := slFE_three hj2.row.sl he; rw [add_plain] at y0 y1 y2; simp only [] at y1 y2; simp only [List.take, putL, Act.put, List.setIfInBounds_toArray, List.set_cons_zero, List.set_cons_succ]; unfold StepE; go_simp; first | exact Cg.below (Below.refl _ _) | exact ⟨Cg.below (Below.refl _ _), hj2⟩
  apply RunN.pure (by decide)
  · intro vs w hb hd; clear hd; have hx1 := box_kept hb HB1.out hbg; simp only [List.take, putL, Act.put, List.setIfInBounds_toArray, List.set_cons_zero, List.set_cons_succ]; unfold StepOK; go_simp; exact ⟨Below.refl _ _, isV_mk _ _⟩
  refine RunN.such (by decide) (isTwo W1.heap.size (.slice e.A e.f.b.length e.c) (.slice B n2 c2)) (isTwo_stable hgB) ?_ ?_
  · intro vs w hb hd; have d12 : isV _ (vs 12) w := hd 12 (by decide) (by kernel_rfl); unfold isV at d12; have d13 : isV _ (vs 13) w := hd 13 (by decide) (by kernel_rfl); unfold isV at d13; clear hd; simp only [List.take, putL, Act.put, List.setIfInBounds_toArray, List.set_cons_zero, List.set_cons_succ]; unfold StepOK; go_simp; exact ⟨below_alloc1 _ _, isTwo_mk hb.size⟩
  refine RunN.such (by decide) (isCl W1.heap.size (e.f.b.length + n2) (e.f.b ++ bs)) (isCl_stable hgB) ?_ ?_
  · intro vs w hb hd; have d14 := hd 14 (by decide) (by kernel_rfl); simp only [TR, Nat.reduceAdd, Nat.reduceSub, List.getD_cons_zero, List.getD_cons_succ] at d14; clear hd; obtain ⟨vb, e14, v14, x14, x15⟩ := isTwo_elim d14; have z1 := Hs1.out w hb; have z2 := Hs2.out w hb; simp only [List.take, putL, Act.put, List.setIfInBounds_toArray, List.set_cons_zero, List.set_cons_succ]; unfold StepOK; go_simp; exact ⟨Below.refl _ _, concat_such hb.size x14 x15 z1 z2 hl1 hl2⟩
  apply RunN.pure (by decide)
  · intro vs w hb hd; have d0 : isV _ (vs 0) w := hd 0 (by decide) (by kernel_rfl); unfold isV at d0; have d1 : isV _ (vs 1) w := hd 1 (by decide) (by kernel_rfl); unfold isV at d1; have d2 : isV _ (vs 2) w := hd 2 (by decide) (by kernel_rfl); unfold isV at d2; have d3 : isV _ (vs 3) w := hd 3 (by decide) (by kernel_rfl); unfold isV at d3; have d4 : isV _ (vs 4) w := hd 4 (by decide) (by kernel_rfl); unfold isV at d4; have d5 : isV _ (vs 5) w := hd 5 (by decide) (by kernel_rfl); unfold isV at d5; have d6 : isV _ (vs 6) w := hd 6 (by decide) (by kernel_rfl); unfold isV at d6; have d7 : isV _ (vs 7) w := hd 7 (by decide) (by kernel_rfl); unfold isV at d7; have d8 : isV _ (vs 8) w := hd 8 (by decide) (by kernel_rfl); unfold isV at d8; have d9 : isV _ (vs 9) w := hd 9 (by decide) (by kernel_rfl); unfold isV at d9; have d10 : isV _ (vs 10) w := hd 10 (by decide) (by kernel_rfl); unfold isV at d10; have d11 : isV _ (vs 11) w := hd 11 (by decide) (by kernel_rfl); unfold isV at d11; have d12 : isV _ (vs 12) w := hd 12 (by decide) (by kernel_rfl); unfold isV at d12; have d13 : isV _ (vs 13) w := hd 13 (by decide) (by kernel_rfl); unfold isV at d13; have d14 := hd 14 (by decide) (by kernel_rfl); simp only [TR, Nat.reduceAdd, Nat.reduceSub, List.getD_cons_zero, List.getD_cons_succ] at d14; have d15 := hd 15 (by decide) (by kernel_rfl); simp only [TR, Nat.reduceAdd, Nat.reduceSub, List.getD_cons_zero, List.getD_cons_succ] at d15; clear hd; simp only [List.take, putL, Act.put, List.setIfInBounds_toArray, List.set_cons_zero, List.set_cons_succ]; unfold StepOK; go_simp; exact ⟨Below.refl _ _, isV_mk _ _⟩
  apply RunN.pure (by decide)
  · intro vs w hb hd; have d0 : isV _ (vs 0) w := hd 0 (by decide) (by kernel_rfl); unfold isV at d0; have d1 : isV _ (vs 1) w := hd 1 (by decide) (by kernel_rfl); unfold isV at d1; have d2 : isV _ (vs 2) w := hd 2 (by decide) (by kernel_rfl); unfold isV at d2; have d3 : isV _ (vs 3) w := hd 3 (by decide) (by kernel_rfl); unfold isV at d3; have d4 : isV _ (vs 4) w := hd 4 (by decide) (by kernel_rfl); unfold isV at d4; have d5 : isV _ (vs 5) w := hd 5 (by decide) (by kernel_rfl); unfold isV at d5; have d6 : isV _ (vs 6) w := hd 6 (by decide) (by kernel_rfl); unfold isV at d6; have d7 : isV _ (vs 7) w := hd 7 (by decide) (by kernel_rfl); unfold isV at d7; have d8 : isV _ (vs 8) w := hd 8 (by decide) (by kernel_rfl); unfold isV at d8; have d9 : isV _ (vs 9) w := hd 9 (by decide) (by kernel_rfl); unfold isV at d9; have d10 : isV _ (vs 10) w := hd 10 (by decide) (by kernel_rfl); unfold isV at d10; have d11 : isV _ (vs 11) w := hd 11 (by decide) (by kernel_rfl); unfold isV at d11; have d12 : isV _ (vs 12) w := hd 12 (by decide) (by kernel_rfl); unfold isV at d12; have d13 : isV _ (vs 13) w := hd 13 (by decide) (by kernel_rfl); unfold isV at d13; have d14 := hd 14 (by decide) (by kernel_rfl); simp only [TR, Nat.reduceAdd, Nat.reduceSub, List.getD_cons_zero, List.getD_cons_succ] at d14; have d15 := hd 15 (by decide) (by kernel_rfl); simp only [TR, Nat.reduceAdd, Nat.reduceSub, List.getD_cons_zero, List.getD_cons_succ] at d15; have d16 : isV _ (vs 16) w := hd 16 (by decide) (by kernel_rfl); unfold isV at d16; clear hd; simp only [List.take, putL, Act.put, List.setIfInBounds_toArray, List.set_cons_zero, List.set_cons_succ]; unfold StepOK; go_simp; exact ⟨Below.refl _ _, isV_mk _ _⟩
  refine RunN.store (by decide) ((fun w => ∃ F', DkIs w base p { D1 with fs := D1.fs.set k ⟨e.f.nm, e.f.b ++ bs, e.f.safe⟩ } F' ∧ ∀ q, F' q → F1 q ∨ W1.heap.size ≤ q)) (fun _ _ _ hb ⟨F2, h1, h2⟩ => ⟨F2, h1.below hb, h2⟩) ?_ ?_
  · intro vs w hb hd hj; have d0 : isV _ (vs 0) w := hd 0 (by decide) (by kernel_rfl); unfold isV at d0; have d1 : isV _ (vs 1) w := hd 1 (by decide) (by kernel_rfl); unfold isV at d1; have d2 : isV _ (vs 2) w := hd 2 (by decide) (by kernel_rfl); unfold isV at d2; have d3 : isV _ (vs 3) w := hd 3 (by decide) (by kernel_rfl); unfold isV at d3; have d4 : isV _ (vs 4) w := hd 4 (by decide) (by kernel_rfl); unfold isV at d4; have d5 : isV _ (vs 5) w := hd 5 (by decide) (by kernel_rfl); unfold isV at d5; have d6 : isV _ (vs 6) w := hd 6 (by decide) (by kernel_rfl); unfold isV at d6; have d7 : isV _ (vs 7) w := hd 7 (by decide) (by kernel_rfl); unfold isV at d7; have d8 : isV _ (vs 8) w := hd 8 (by decide) (by kernel_rfl); unfold isV at d8; have d9 : isV _ (vs 9) w := hd 9 (by decide) (by kernel_rfl); unfold isV at d9; have d10 : isV _ (vs 10) w := hd 10 (by decide) (by kernel_rfl); unfold isV at d10; have d11 : isV _ (vs 11) w := hd 11 (by decide) (by kernel_rfl); unfold isV at d11; have d12 : isV _ (vs 12) w := hd 12 (by decide) (by kernel_rfl); unfold isV at d12; have d13 : isV _ (vs 13) w := hd 13 (by decide) (by kernel_rfl); unfold isV at d13; have d14 := hd 14 (by decide) (by kernel_rfl); simp only [TR, Nat.reduceAdd, Nat.reduceSub, List.getD_cons_zero, List.getD_cons_succ] at d14; have d15 := hd 15 (by decide) (by kernel_rfl); simp only [TR, Nat.reduceAdd, Nat.reduceSub, List.getD_cons_zero, List.getD_cons_succ] at d15; have d17 : isV _ (vs 17) w := hd 17 (by decide) (by kernel_rfl); unfold isV at d17; clear hd; have hj2 := hj; (try simp only [prevE, lastV, List.mem_cons, List.not_mem_nil, or_false, Nat.reduceEqDiff, Nat.reduceAdd, if_true, if_false, reduceIte, or_true, true_or, or_self] at hj2); clear hj; obtain ⟨A3, c3, e15, o15⟩ := isCl_elim d15; obtain ⟨q0, q1, q2, q3⟩ := app_store hj2.2 he o15 hb.size HF1.out Hgd.out; simp only [List.take, putL, Act.put, List.setIfInBounds_toArray, List.set_cons_zero, List.set_cons_succ]; unfold StepE; go_simp; (try exact ⟨q2, q3⟩)
  intro vs w1 hb hd hj
  try simp only [prevE, lastV, List.mem_cons, List.not_mem_nil, or_false, Nat.reduceEqDiff, Nat.reduceAdd, if_true, if_false, reduceIte, or_true, true_or, or_self] at hj
  have e0 : isV _ (vs 0) w1 := hd 0 (by decide)
  have e1 : isV _ (vs 1) w1 := hd 1 (by decide)
  have e2 : isV _ (vs 2) w1 := hd 2 (by decide)
  have e3 : isV _ (vs 3) w1 := hd 3 (by decide)
  have e4 : isV _ (vs 4) w1 := hd 4 (by decide)
  have e5 : isV _ (vs 5) w1 := hd 5 (by decide)
  have e6 : isV _ (vs 6) w1 := hd 6 (by decide)
  have e7 : isV _ (vs 7) w1 := hd 7 (by decide)
  have e8 : isV _ (vs 8) w1 := hd 8 (by decide)
  have e9 : isV _ (vs 9) w1 := hd 9 (by decide)
  have e10 : isV _ (vs 10) w1 := hd 10 (by decide)
  have e11 : isV _ (vs 11) w1 := hd 11 (by decide)
  have e12 : isV _ (vs 12) w1 := hd 12 (by decide)
  have e13 : isV _ (vs 13) w1 := hd 13 (by decide)
  have e14 := hd 14 (by decide); simp only [TR, Nat.reduceAdd, Nat.reduceSub, List.getD_cons_zero, List.getD_cons_succ] at e14
  have e15 := hd 15 (by decide); simp only [TR, Nat.reduceAdd, Nat.reduceSub, List.getD_cons_zero, List.getD_cons_succ] at e15
  have e16 : isV _ (vs 16) w1 := hd 16 (by decide)
  have e17 : isV _ (vs 17) w1 := hd 17 (by decide)
  clear hd
  unfold isV at e0 e1 e2 e3 e4 e5 e6 e7 e8 e9 e10 e11 e12 e13 e16 e17
  simp only [putL, Act.put, List.setIfInBounds_toArray, List.set_cons_zero, List.set_cons_succ, e0, e1, e2, e3, e4, e5, e6, e7, e8, e9, e10, e11, e12, e13, e16, e17]
  clear e0 e1 e2 e3 e4 e5 e6 e7 e8 e9 e10 e11 e12 e13 e16 e17
  --@end
  have Hj := Lib.hid hj
  have Hb := Lib.hid hb
  clear hj hb
  go_wp2_with fail
  go_end0
  obtain ⟨F', k1, k2⟩ := Hj.out
  refine ⟨rfl, F', k1, ?_⟩
  have hc := Hb.out
  exact ⟨hc.os, hc.tape, hc.output, hc.size, fun q hq hf => hc.block q hq (fun e2 => hf (by unfold Gk at e2; rw [e2]; exact hfg.1)), k2⟩
set_option maxRecDepth 100000 in
set_option maxHeartbeats 8000000 in
/-- the file is not there: it is set in -/
theorem app1n_any (hI : DI W base p D F R c es) {ob db ib nb bb : Nat} {nm : Nm} {B : Option Addr} {n2 c2 : Nat} {bs : List UInt8} (ht : thereF D.fs nm = false) {k : Nat} (hps : posF D.fs nm = k)
    (ho : W.cell? ⟨ob, 0, none⟩ = some (.bool false)) (hd : W.cell? ⟨db, 0, none⟩ = some (.pointer (some ⟨p, 0, none⟩))) (hi : W.cell? ⟨ib, 0, none⟩ = some (.int .i64 (k : Int))) (hn : W.cell? ⟨nb, 0, none⟩ = some (.string (bstr nm))) (hb : W.cell? ⟨bb, 0, none⟩ = some (.slice B n2 c2))
    (hdF : ¬ F db) (hiF : ¬ F ib) (hnF : ¬ F nb) (hbF : ¬ F bb) (sB : Sl W 1 B n2 c2 (bytesV bs)) (hBF : ∀ a, B = some a → bs ≠ [] → ¬ F a.block) (hroom : (usedF D.fs : Int) + bs.length ≤ D.room) (hfew : D.fs.length < 200) (hnm : nm.length ≤ 60) :
    Calls Tryz.prog 37 #[.pointer (some ⟨ob, 0, none⟩), .pointer (some ⟨db, 0, none⟩), .pointer (some ⟨ib, 0, none⟩), .pointer (some ⟨nb, 0, none⟩), .pointer (some ⟨bb, 0, none⟩)] W fun x w' => x = .returned (.tuple #[]) ∧ ∃ F', DkIs w' base p { D with fs := insF D.fs k ⟨nm, bs, 0⟩ } F' ∧ Cg F F' W w' := by
  have hesl : es.length = D.fs.length := by rw [← hI.fs, List.length_map]
  have hkl : k ≤ es.length := by rw [hesl, ← hps]; exact posF_le _ _
  have hgi : Good { D with fs := insF D.fs k ⟨nm, [], 0⟩ } := by
    rw [← hps]
    exact hI.good.ins (f := ⟨nm, [], 0⟩) ht hfew (by have := hI.good.used; simp only [List.length_nil]; omega) (Nat.le_refl _) hnm
  have hgd2 : Good { D with fs := (insF D.fs k ⟨nm, [], 0⟩).set k ⟨nm, bs, 0⟩ } := by
    have hx : (insF D.fs k ⟨nm, [], 0⟩)[k]? = some ⟨nm, [], 0⟩ := by rw [ins_get _ (by rw [← hesl]; exact hkl), if_neg (Nat.lt_irrefl _), if_pos rfl]
    exact hgi.setU (f' := ⟨nm, bs, 0⟩) hx rfl (by simp only [used_ins, List.length_nil]; omega) (by simp)
  have hset : (insF D.fs k ⟨nm, [], 0⟩).set k ⟨nm, bs, 0⟩ = insF D.fs k ⟨nm, bs, 0⟩ := by
    unfold insF
    have hl : (D.fs.take k).length = k := by rw [List.length_take]; omega
    rw [List.set_append_right _ _ (by omega), hl, Nat.sub_self]
    rfl
  have Hset := Lib.hid hset
  have Hgd2 := Lib.hid hgd2
  have Hgi := Lib.hid hgi
  have hin : (0 : Int) ≤ (k : Int) ∧ (k : Int) < ((es.length + 1 : Nat) : Int) := by omega
  have hl200 := hI.len
  have hk3 : k ≤ 200 := by omega
  have HFB := Lib.hid (show ∀ q, F q → q < W.heap.size from fun q hq => (hI.bound q hq).2)
  have hrm := hI.good.room
  have hbl := sB.blen
  have hl2 : n2 ≤ 100000000 := by omega
  have H := Lib.hid hI
  have HD := Lib.hid hd
  have HI := Lib.hid hi
  have HN := Lib.hid hn
  have HBB := Lib.hid hb
  have HsB := Lib.hid sB
  clear hgi hgd2 hset hd hi hn hb hI ht hps hroom hrm hfew hbl hesl
  go_enter Tryz.func37, Tryz.ntmps37
  go_upto_region 1 with fail
  --@region 85 1 app1.spec
  refine wp_region_runN [4, 9, 12] (fun _ w => DI w base p D F R c es) (by kernel_rfl) (by kernel_rfl) (by kernel_rfl) (R := Cg F F) (fun _ _ h => Cg.below h) (fun _ _ _ => Cg.trans) (fun _ _ _ hb hj => DI.below hj hb) H.out ?_
  apply RunN.pure (by decide)
  · intro vs w hb hd; clear hd; have hx1 := box_kept hb HD.out hdF; simp only [List.take, putL, Act.put, List.setIfInBounds_toArray, List.set_cons_zero, List.set_cons_succ]; unfold StepOK; go_simp; exact ⟨Below.refl _ _, isV_mk _ _⟩
  apply RunN.pure (by decide)
  · intro vs w hb hd; clear hd; have hx1 := box_kept hb HD.out hdF; simp only [List.take, putL, Act.put, List.setIfInBounds_toArray, List.set_cons_zero, List.set_cons_succ]; unfold StepOK; go_simp; exact ⟨Below.refl _ _, isV_mk _ _⟩
  apply RunN.pure (by decide)
  · intro vs w hb hd; have d1 : isV _ (vs 1) w := hd 1 (by decide) (by kernel_rfl); unfold isV at d1; clear hd; simp only [List.take, putL, Act.put, List.setIfInBounds_toArray, List.set_cons_zero, List.set_cons_succ]; unfold StepOK; go_simp; exact ⟨Below.refl _ _, isV_mk _ _⟩
  apply RunN.pure (by decide)
  · intro vs w hb hd; have d2 : isV _ (vs 2) w := hd 2 (by decide) (by kernel_rfl); unfold isV at d2; clear hd; simp only [List.take, putL, Act.put, List.setIfInBounds_toArray, List.set_cons_zero, List.set_cons_succ]; unfold StepOK; go_simp; exact ⟨Below.refl _ _, isV_mk _ _⟩
  refine RunN.eff (by decide) ((fun v w => v = .slice R es.length c ∧ DI w base p D F R c es)) (fun _ _ _ hb hj => ⟨hj.1, DI.below hj.2 hb⟩) (by rfl) ?_ ?_
  · intro vs w hb hd hj; have d3 : isV _ (vs 3) w := hd 3 (by decide) (by kernel_rfl); unfold isV at d3; clear hd; have hj2 := hj; (try simp only [prevE, lastV, List.mem_cons, List.not_mem_nil, or_false, Nat.reduceEqDiff, Nat.reduceAdd, if_true, if_false, reduceIte, or_true, true_or, or_self] at hj2); clear hj; have hx1 := hj2.cell.1; simp only [List.take, putL, Act.put, List.setIfInBounds_toArray, List.set_cons_zero, List.set_cons_succ]; unfold StepE; go_simp; first | exact Cg.below (Below.refl _ _) | exact ⟨Cg.below (Below.refl _ _), hj2⟩
  apply RunN.pure (by decide)
  · intro vs w hb hd; clear hd; have hx1 := box_kept hb HI.out hiF; simp only [List.take, putL, Act.put, List.setIfInBounds_toArray, List.set_cons_zero, List.set_cons_succ]; unfold StepOK; go_simp; exact ⟨Below.refl _ _, isV_mk _ _⟩
  apply RunN.pure (by decide)
  · intro vs w hb hd; clear hd; have hx1 := box_kept hb HN.out hnF; simp only [List.take, putL, Act.put, List.setIfInBounds_toArray, List.set_cons_zero, List.set_cons_succ]; unfold StepOK; go_simp; exact ⟨Below.refl _ _, isV_mk _ _⟩
  apply RunN.pure (by decide)
  · intro vs w hb hd; have d6 : isV _ (vs 6) w := hd 6 (by decide) (by kernel_rfl); unfold isV at d6; clear hd; simp only [List.take, putL, Act.put, List.setIfInBounds_toArray, List.set_cons_zero, List.set_cons_succ]; unfold StepOK; go_simp; exact ⟨Below.refl _ _, isV_mk _ _⟩
  refine RunN.such (by decide) (isNf W.heap.size (bstr nm)) (isNf_stable HFB.out) ?_ ?_
  · intro vs w hb hd; have d7 : isV _ (vs 7) w := hd 7 (by decide) (by kernel_rfl); unfold isV at d7; clear hd; simp only [List.take, putL, Act.put, List.setIfInBounds_toArray, List.set_cons_zero, List.set_cons_succ]; unfold StepOK; go_simp; exact ⟨below_alloc1 _ _, isNf_mk hb.size⟩
  refine RunN.eff (by decide) ((fun v w => JInsV base p D F R c es k nm W v w)) (fun _ _ _ hb ⟨A1, c1, h1, h2⟩ => ⟨A1, c1, h1, JIns_below h2 hb⟩) (by rfl) ?_ ?_
  · intro vs w hb hd hj; have d5 : isV _ (vs 5) w := hd 5 (by decide) (by kernel_rfl); unfold isV at d5; have d8 := hd 8 (by decide) (by kernel_rfl); simp only [TR, Nat.reduceAdd, Nat.reduceSub, List.getD_cons_zero, List.getD_cons_succ] at d8; clear hd; have hj2 := hj; (try simp only [prevE, lastV, List.mem_cons, List.not_mem_nil, or_false, Nat.reduceEqDiff, Nat.reduceAdd, if_true, if_false, reduceIte, or_true, true_or, or_self] at hj2); clear hj; obtain ⟨vb, e8, v8, x8⟩ := isNf_elim d8; obtain ⟨e4, h4⟩ := hj2; simp only [List.take, putL, Act.put, List.setIfInBounds_toArray, List.set_cons_zero, List.set_cons_succ]; unfold StepE; go_simp; exact ⟨Cg.below (Below.refl _ _), JIns_such h4 hb HFB.out v8 x8 hkl⟩
  apply RunN.pure (by decide)
  · intro vs w hb hd; have d0 : isV _ (vs 0) w := hd 0 (by decide) (by kernel_rfl); unfold isV at d0; have d1 : isV _ (vs 1) w := hd 1 (by decide) (by kernel_rfl); unfold isV at d1; have d2 : isV _ (vs 2) w := hd 2 (by decide) (by kernel_rfl); unfold isV at d2; have d3 : isV _ (vs 3) w := hd 3 (by decide) (by kernel_rfl); unfold isV at d3; have d5 : isV _ (vs 5) w := hd 5 (by decide) (by kernel_rfl); unfold isV at d5; have d6 : isV _ (vs 6) w := hd 6 (by decide) (by kernel_rfl); unfold isV at d6; have d7 : isV _ (vs 7) w := hd 7 (by decide) (by kernel_rfl); unfold isV at d7; have d8 := hd 8 (by decide) (by kernel_rfl); simp only [TR, Nat.reduceAdd, Nat.reduceSub, List.getD_cons_zero, List.getD_cons_succ] at d8; clear hd; simp only [List.take, putL, Act.put, List.setIfInBounds_toArray, List.set_cons_zero, List.set_cons_succ]; unfold StepOK; go_simp; exact ⟨Below.refl _ _, isV_mk _ _⟩
  apply RunN.pure (by decide)
  · intro vs w hb hd; have d0 : isV _ (vs 0) w := hd 0 (by decide) (by kernel_rfl); unfold isV at d0; have d1 : isV _ (vs 1) w := hd 1 (by decide) (by kernel_rfl); unfold isV at d1; have d2 : isV _ (vs 2) w := hd 2 (by decide) (by kernel_rfl); unfold isV at d2; have d3 : isV _ (vs 3) w := hd 3 (by decide) (by kernel_rfl); unfold isV at d3; have d5 : isV _ (vs 5) w := hd 5 (by decide) (by kernel_rfl); unfold isV at d5; have d6 : isV _ (vs 6) w := hd 6 (by decide) (by kernel_rfl); unfold isV at d6; have d7 : isV _ (vs 7) w := hd 7 (by decide) (by kernel_rfl); unfold isV at d7; have d8 := hd 8 (by decide) (by kernel_rfl); simp only [TR, Nat.reduceAdd, Nat.reduceSub, List.getD_cons_zero, List.getD_cons_succ] at d8; have d10 : isV _ (vs 10) w := hd 10 (by decide) (by kernel_rfl); unfold isV at d10; clear hd; simp only [List.take, putL, Act.put, List.setIfInBounds_toArray, List.set_cons_zero, List.set_cons_succ]; unfold StepOK; go_simp; exact ⟨Below.refl _ _, isV_mk _ _⟩
  refine RunN.store (by decide) ((fun w => JNew base p { D with fs := insF D.fs k ⟨nm, [], 0⟩ } F (insE es k nm) W.heap.size w)) (fun _ _ _ hb ⟨F2, A1, c1, h1, h2⟩ => ⟨F2, A1, c1, h1.below hb, h2⟩) ?_ ?_
  · intro vs w hb hd hj; have d0 : isV _ (vs 0) w := hd 0 (by decide) (by kernel_rfl); unfold isV at d0; have d1 : isV _ (vs 1) w := hd 1 (by decide) (by kernel_rfl); unfold isV at d1; have d2 : isV _ (vs 2) w := hd 2 (by decide) (by kernel_rfl); unfold isV at d2; have d3 : isV _ (vs 3) w := hd 3 (by decide) (by kernel_rfl); unfold isV at d3; have d5 : isV _ (vs 5) w := hd 5 (by decide) (by kernel_rfl); unfold isV at d5; have d6 : isV _ (vs 6) w := hd 6 (by decide) (by kernel_rfl); unfold isV at d6; have d7 : isV _ (vs 7) w := hd 7 (by decide) (by kernel_rfl); unfold isV at d7; have d8 := hd 8 (by decide) (by kernel_rfl); simp only [TR, Nat.reduceAdd, Nat.reduceSub, List.getD_cons_zero, List.getD_cons_succ] at d8; have d11 : isV _ (vs 11) w := hd 11 (by decide) (by kernel_rfl); unfold isV at d11; clear hd; have hj2 := hj; (try simp only [prevE, lastV, List.mem_cons, List.not_mem_nil, or_false, Nat.reduceEqDiff, Nat.reduceAdd, if_true, if_false, reduceIte, or_true, true_or, or_self] at hj2); clear hj; obtain ⟨A1, c1, e9, h9⟩ := hj2; obtain ⟨q0, q1, q2, q3⟩ := JIns_store h9 hkl Hgi.out; simp only [List.take, putL, Act.put, List.setIfInBounds_toArray, List.set_cons_zero, List.set_cons_succ]; unfold StepE; go_simp; (try exact ⟨q2, q3⟩)
  intro vs w1 hb hd hj
  try simp only [prevE, lastV, List.mem_cons, List.not_mem_nil, or_false, Nat.reduceEqDiff, Nat.reduceAdd, if_true, if_false, reduceIte, or_true, true_or, or_self] at hj
  have e0 : isV _ (vs 0) w1 := hd 0 (by decide)
  have e1 : isV _ (vs 1) w1 := hd 1 (by decide)
  have e2 : isV _ (vs 2) w1 := hd 2 (by decide)
  have e3 : isV _ (vs 3) w1 := hd 3 (by decide)
  have e5 : isV _ (vs 5) w1 := hd 5 (by decide)
  have e6 : isV _ (vs 6) w1 := hd 6 (by decide)
  have e7 : isV _ (vs 7) w1 := hd 7 (by decide)
  have e8 := hd 8 (by decide); simp only [TR, Nat.reduceAdd, Nat.reduceSub, List.getD_cons_zero, List.getD_cons_succ] at e8
  have e10 : isV _ (vs 10) w1 := hd 10 (by decide)
  have e11 : isV _ (vs 11) w1 := hd 11 (by decide)
  clear hd
  unfold isV at e0 e1 e2 e3 e5 e6 e7 e10 e11
  simp only [putL, Act.put, List.setIfInBounds_toArray, List.set_cons_zero, List.set_cons_succ, e0, e1, e2, e3, e5, e6, e7, e10, e11]
  clear e0 e1 e2 e3 e5 e6 e7 e10 e11
  --@end
  obtain ⟨F1, A1, c1, hI1, hF1n⟩ := hj
  have hcg := hb
  have Hcg := Lib.hid hb
  have hp2 : ¬ F p → False := fun h => h H.out.fp
  clear ho
  obtain ⟨e, he⟩ : ∃ e : FE, e = ⟨⟨nm, [], 0⟩, none, 0⟩ := ⟨_, rfl⟩
  have hek : (insE es k nm)[k]? = some e := by
    unfold insE
    rw [List.getElem?_append_right (by rw [List.length_take]; omega), List.length_take, Nat.min_eq_left hkl, Nat.sub_self, he]
    rfl
  have hen : insF D.fs k ⟨nm, [], 0⟩ = insF D.fs k e.f := by rw [he]
  have hnF1 : ∀ q, ¬ F q → q < W.heap.size → ¬ F1 q := fun q h1 h2 h3 => by
    rcases hF1n q h3 with h4 | h4
    · exact h1 h4
    · omega
  have kept : ∀ q v, W.cell? ⟨q, 0, none⟩ = some v → ¬ F q → w1.cell? ⟨q, 0, none⟩ = some v ∧ ¬ F1 q := fun q v h1 h2 => ⟨box_kept hcg h1 h2, hnF1 q h2 (by have := World.block_lt_of_cell? _ _ h1; exact this)⟩
  obtain ⟨hd1, hdF1⟩ := kept _ _ HD.out hdF
  obtain ⟨hi1, hiF1⟩ := kept _ _ HI.out hiF
  obtain ⟨hb1, hbF1⟩ := kept _ _ HBB.out hbF
  have hsB1 : Sl w1 1 B n2 c2 (bytesV bs) ∧ ∀ a, B = some a → bs ≠ [] → ¬ F1 a.block := by
    by_cases h0 : bs = []
    · subst h0
      exact ⟨⟨fun j u hj => by simp [bytesV] at hj, HsB.out.len, HsB.out.le, HsB.out.none⟩, fun a _ h => absurd rfl h⟩
    · have hlt : ∀ a, B = some a → a.block < W.heap.size := fun a ha => by
        subst ha
        obtain ⟨x, hx⟩ := get_some bs 0 (by have := List.length_pos_iff.2 h0; omega)
        obtain ⟨ad, h1, h2⟩ := HsB.out.byteAt hx
        cases h1
        have := World.block_lt_of_cell? _ _ h2
        rwa [add_block] at this
      exact ⟨sl_same HsB.out (fun a ha => hcg.block _ (hlt a ha) (hBF a ha h0)), fun a ha _ => hnF1 _ (hBF a ha h0) (hlt a ha)⟩
  obtain ⟨D1, hD1⟩ : ∃ D1 : Dk, D1 = { D with fs := insF D.fs k ⟨nm, [], 0⟩ } := ⟨_, rfl⟩
  rw [← hD1] at hI1
  obtain ⟨es1, hes1⟩ : ∃ es1, es1 = insE es k nm := ⟨_, rfl⟩
  rw [← hes1] at hI1 hek
  have hl1e : es1.length = es.length + 1 := by rw [hes1]; exact insE_len hkl
  obtain ⟨g, rfl⟩ := rowAddr hI1 hek
  have hfg := hI1.fr _ rfl
  have hin2 : (0 : Int) ≤ (k : Int) ∧ (k : Int) < (es1.length : Int) := by omega
  have hek0 : e.f.b.length = 0 := by rw [he]; rfl
  have hl1 : e.f.b.length ≤ 100000000 := by omega
  have he2 := hek
  have H1 := Lib.hid hI1
  have Hgd := Lib.hid (show Good { D1 with fs := D1.fs.set k ⟨e.f.nm, e.f.b ++ bs, e.f.safe⟩ } from by rw [hD1, he]; exact Hgd2.out)
  have Hfin := Lib.hid (show { D1 with fs := D1.fs.set k ⟨e.f.nm, e.f.b ++ bs, e.f.safe⟩ } = { D with fs := insF D.fs k ⟨nm, bs, 0⟩ } from by rw [hD1, he, ← Hset.out]; rfl)
  have HF1 := Lib.hid (show ∀ q, F1 q → q < w1.heap.size from fun q hq => (hI1.bound q hq).2)
  have HC0 := Lib.hid hI1.cell.1
  have hpg : ¬ Gk g p := fun e2 => hfg.2 e2.symm
  have hgB : g < w1.heap.size := (hI1.bound g hfg.1).2
  have ng : ∀ q, ¬ F1 q → ¬ Gk g q := fun q hq e2 => hq (by unfold Gk at e2; rw [e2]; exact hfg.1)
  have hdg := ng _ hdF1
  have hig := ng _ hiF1
  have hbg := ng _ hbF1
  have Hs1 := Lib.hid (show ∀ w, Cg (Gk g) (Gk g) w1 w → Sl w 1 e.A e.f.b.length e.c (bytesV e.f.b) from fun w hw => by rw [he]; exact sl_nilF w)
  have Hs2 := Lib.hid (show ∀ w, Cg (Gk g) (Gk g) w1 w → Sl w 1 B n2 c2 (bytesV bs) from fun w hw => by
    by_cases h0 : bs = []
    · subst h0
      exact ⟨fun j u hj => by simp [bytesV] at hj, hsB1.1.len, hsB1.1.le, hsB1.1.none⟩
    · refine sl_same hsB1.1 (fun a ha => ?_)
      subst ha
      obtain ⟨x, hx⟩ := get_some bs 0 (by have := List.length_pos_iff.2 h0; omega)
      obtain ⟨ad, h1, h2⟩ := hsB1.1.byteAt hx
      cases h1
      have := World.block_lt_of_cell? _ _ h2
      rw [add_block] at this
      exact hw.block _ this (ng _ (hsB1.2 a rfl h0)))
  have HD1 := Lib.hid hd1
  have HI1 := Lib.hid hi1
  have HB1 := Lib.hid hb1
  have HF1n := Lib.hid hF1n
  clear hl1e hI1 hd1 hi1 hb1 hsB1 ng hek hen kept hnF1 hcg hb hD1 hes1 hin HD HI HN HBB hBF H hp2 hek0 he hF1n hdF1 hiF1 hbF1 hdF hiF hnF hbF
  have he := he2
  clear he2
  obtain ⟨W1, hW1⟩ : ∃ W1, W1 = w1 := ⟨_, rfl⟩
  subst hW1
  have hin := hin2
  clear hin2
  go_upto_region 2 with fail
  --@region 85 2 app2.spec
  refine wp_region_runN [12, 18] (fun _ w => DI w base p D1 F1 (some ⟨g, 0, none⟩) c1 es1) (by kernel_rfl) (by kernel_rfl) (by kernel_rfl) (R := Cg (Gk g) (Gk g)) (fun _ _ h => Cg.below h) (fun _ _ _ => Cg.trans) (fun _ _ _ hb hj => DI.below hj hb) H1.out ?_
  apply RunN.pure (by decide)
  · intro vs w hb hd; clear hd; have hx1 := box_kept hb HD1.out hdg; simp only [List.take, putL, Act.put, List.setIfInBounds_toArray, List.set_cons_zero, List.set_cons_succ]; unfold StepOK; go_simp; exact ⟨Below.refl _ _, isV_mk _ _⟩
  apply RunN.pure (by decide)
  · intro vs w hb hd; have d0 : isV _ (vs 0) w := hd 0 (by decide) (by kernel_rfl); unfold isV at d0; clear hd; simp only [List.take, putL, Act.put, List.setIfInBounds_toArray, List.set_cons_zero, List.set_cons_succ]; unfold StepOK; go_simp; exact ⟨Below.refl _ _, isV_mk _ _⟩
  apply RunN.pure (by decide)
  · intro vs w hb hd; have d1 : isV _ (vs 1) w := hd 1 (by decide) (by kernel_rfl); unfold isV at d1; clear hd; simp only [List.take, putL, Act.put, List.setIfInBounds_toArray, List.set_cons_zero, List.set_cons_succ]; unfold StepOK; go_simp; exact ⟨Below.refl _ _, isV_mk _ _⟩
  apply RunN.pure (by decide)
  · intro vs w hb hd; have d2 : isV _ (vs 2) w := hd 2 (by decide) (by kernel_rfl); unfold isV at d2; clear hd; have hx1 := box_kept hb HC0.out hpg; simp only [List.take, putL, Act.put, List.setIfInBounds_toArray, List.set_cons_zero, List.set_cons_succ]; unfold StepOK; go_simp; exact ⟨Below.refl _ _, isV_mk _ _⟩
  apply RunN.pure (by decide)
  · intro vs w hb hd; clear hd; have hx1 := box_kept hb HI1.out hig; simp only [List.take, putL, Act.put, List.setIfInBounds_toArray, List.set_cons_zero, List.set_cons_succ]; unfold StepOK; go_simp; exact ⟨Below.refl _ _, isV_mk _ _⟩
  apply RunN.pure (by decide)
  · intro vs w hb hd; clear hd; have hx1 := box_kept hb HD1.out hdg; simp only [List.take, putL, Act.put, List.setIfInBounds_toArray, List.set_cons_zero, List.set_cons_succ]; unfold StepOK; go_simp; exact ⟨Below.refl _ _, isV_mk _ _⟩
  apply RunN.pure (by decide)
  · intro vs w hb hd; have d5 : isV _ (vs 5) w := hd 5 (by decide) (by kernel_rfl); unfold isV at d5; clear hd; simp only [List.take, putL, Act.put, List.setIfInBounds_toArray, List.set_cons_zero, List.set_cons_succ]; unfold StepOK; go_simp; exact ⟨Below.refl _ _, isV_mk _ _⟩
  apply RunN.pure (by decide)
  · intro vs w hb hd; have d6 : isV _ (vs 6) w := hd 6 (by decide) (by kernel_rfl); unfold isV at d6; clear hd; simp only [List.take, putL, Act.put, List.setIfInBounds_toArray, List.set_cons_zero, List.set_cons_succ]; unfold StepOK; go_simp; exact ⟨Below.refl _ _, isV_mk _ _⟩
  apply RunN.pure (by decide)
  · intro vs w hb hd; have d7 : isV _ (vs 7) w := hd 7 (by decide) (by kernel_rfl); unfold isV at d7; clear hd; have hx1 := box_kept hb HC0.out hpg; simp only [List.take, putL, Act.put, List.setIfInBounds_toArray, List.set_cons_zero, List.set_cons_succ]; unfold StepOK; go_simp; exact ⟨Below.refl _ _, isV_mk _ _⟩
  apply RunN.pure (by decide)
  · intro vs w hb hd; clear hd; have hx1 := box_kept hb HI1.out hig; simp only [List.take, putL, Act.put, List.setIfInBounds_toArray, List.set_cons_zero, List.set_cons_succ]; unfold StepOK; go_simp; exact ⟨Below.refl _ _, isV_mk _ _⟩
  apply RunN.pure (by decide)
  · intro vs w hb hd; have d8 : isV _ (vs 8) w := hd 8 (by decide) (by kernel_rfl); unfold isV at d8; have d9 : isV _ (vs 9) w := hd 9 (by decide) (by kernel_rfl); unfold isV at d9; clear hd; simp only [List.take, putL, Act.put, List.setIfInBounds_toArray, List.set_cons_zero, List.set_cons_succ]; unfold StepOK; go_simp; exact ⟨Below.refl _ _, isV_mk _ _⟩
  apply RunN.pure (by decide)
  · intro vs w hb hd; have d10 : isV _ (vs 10) w := hd 10 (by decide) (by kernel_rfl); unfold isV at d10; clear hd; simp only [List.take, putL, Act.put, List.setIfInBounds_toArray, List.set_cons_zero, List.set_cons_succ]; unfold StepOK; go_simp; exact ⟨Below.refl _ _, isV_mk _ _⟩
  refine RunN.effV (c := (.slice e.A e.f.b.length e.c)) (by decide) ((fun v w => v = .slice e.A e.f.b.length e.c ∧ DI w base p D1 F1 (some ⟨g, 0, none⟩) c1 es1)) (fun _ _ _ hb hj => ⟨hj.1, DI.below hj.2 hb⟩) (by rfl) (fun v w h => h.1) ?_ ?_
  · intro vs w hb hd hj; have d11 : isV _ (vs 11) w := hd 11 (by decide) (by kernel_rfl); unfold isV at d11; clear hd; have hj2 := hj; (try simp only [prevE, lastV, List.mem_cons, List.not_mem_nil, or_false, Nat.reduceEqDiff, Nat.reduceAdd, if_true, if_false, reduceIte, or_true, true_or, or_self] at hj2); clear hj; obtain ⟨y0, y1, y2⟩ := slFE_three hj2.row.sl he; rw [add_plain] at y0 y1 y2; simp only [] at y1 y2; simp only [List.take, putL, Act.put, List.setIfInBounds_toArray, List.set_cons_zero, List.set_cons_succ]; unfold StepE; go_simp; first | exact Cg.below (Below.refl _ _) | exact ⟨Cg.below (Below.refl _ _), hj2⟩
  apply RunN.pure (by decide)
  · intro vs w hb hd; clear hd; have hx1 := box_kept hb HB1.out hbg; simp only [List.take, putL, Act.put, List.setIfInBounds_toArray, List.set_cons_zero, List.set_cons_succ]; unfold StepOK; go_simp; exact ⟨Below.refl _ _, isV_mk _ _⟩
  refine RunN.such (by decide) (isTwo W1.heap.size (.slice e.A e.f.b.length e.c) (.slice B n2 c2)) (isTwo_stable hgB) ?_ ?_
  · intro vs w hb hd; have d12 : isV _ (vs 12) w := hd 12 (by decide) (by kernel_rfl); unfold isV at d12; have d13 : isV _ (vs 13) w := hd 13 (by decide) (by kernel_rfl); unfold isV at d13; clear hd; simp only [List.take, putL, Act.put, List.setIfInBounds_toArray, List.set_cons_zero, List.set_cons_succ]; unfold StepOK; go_simp; exact ⟨below_alloc1 _ _, isTwo_mk hb.size⟩
  refine RunN.such (by decide) (isCl W1.heap.size (e.f.b.length + n2) (e.f.b ++ bs)) (isCl_stable hgB) ?_ ?_
  · intro vs w hb hd; have d14 := hd 14 (by decide) (by kernel_rfl); simp only [TR, Nat.reduceAdd, Nat.reduceSub, List.getD_cons_zero, List.getD_cons_succ] at d14; clear hd; obtain ⟨vb, e14, v14, x14, x15⟩ := isTwo_elim d14; have z1 := Hs1.out w hb; have z2 := Hs2.out w hb; simp only [List.take, putL, Act.put, List.setIfInBounds_toArray, List.set_cons_zero, List.set_cons_succ]; unfold StepOK; go_simp; exact ⟨Below.refl _ _, concat_such hb.size x14 x15 z1 z2 hl1 hl2⟩
  apply RunN.pure (by decide)
  · intro vs w hb hd; have d0 : isV _ (vs 0) w := hd 0 (by decide) (by kernel_rfl); unfold isV at d0; have d1 : isV _ (vs 1) w := hd 1 (by decide) (by kernel_rfl); unfold isV at d1; have d2 : isV _ (vs 2) w := hd 2 (by decide) (by kernel_rfl); unfold isV at d2; have d3 : isV _ (vs 3) w := hd 3 (by decide) (by kernel_rfl); unfold isV at d3; have d4 : isV _ (vs 4) w := hd 4 (by decide) (by kernel_rfl); unfold isV at d4; have d5 : isV _ (vs 5) w := hd 5 (by decide) (by kernel_rfl); unfold isV at d5; have d6 : isV _ (vs 6) w := hd 6 (by decide) (by kernel_rfl); unfold isV at d6; have d7 : isV _ (vs 7) w := hd 7 (by decide) (by kernel_rfl); unfold isV at d7; have d8 : isV _ (vs 8) w := hd 8 (by decide) (by kernel_rfl); unfold isV at d8; have d9 : isV _ (vs 9) w := hd 9 (by decide) (by kernel_rfl); unfold isV at d9; have d10 : isV _ (vs 10) w := hd 10 (by decide) (by kernel_rfl); unfold isV at d10; have d11 : isV _ (vs 11) w := hd 11 (by decide) (by kernel_rfl); unfold isV at d11; have d12 : isV _ (vs 12) w := hd 12 (by decide) (by kernel_rfl); unfold isV at d12; have d13 : isV _ (vs 13) w := hd 13 (by decide) (by kernel_rfl); unfold isV at d13; have d14 := hd 14 (by decide) (by kernel_rfl); simp only [TR, Nat.reduceAdd, Nat.reduceSub, List.getD_cons_zero, List.getD_cons_succ] at d14; have d15 := hd 15 (by decide) (by kernel_rfl); simp only [TR, Nat.reduceAdd, Nat.reduceSub, List.getD_cons_zero, List.getD_cons_succ] at d15; clear hd; simp only [List.take, putL, Act.put, List.setIfInBounds_toArray, List.set_cons_zero, List.set_cons_succ]; unfold StepOK; go_simp; exact ⟨Below.refl _ _, isV_mk _ _⟩
  apply RunN.pure (by decide)
  · intro vs w hb hd; have d0 : isV _ (vs 0) w := hd 0 (by decide) (by kernel_rfl); unfold isV at d0; have d1 : isV _ (vs 1) w := hd 1 (by decide) (by kernel_rfl); unfold isV at d1; have d2 : isV _ (vs 2) w := hd 2 (by decide) (by kernel_rfl); unfold isV at d2; have d3 : isV _ (vs 3) w := hd 3 (by decide) (by kernel_rfl); unfold isV at d3; have d4 : isV _ (vs 4) w := hd 4 (by decide) (by kernel_rfl); unfold isV at d4; have d5 : isV _ (vs 5) w := hd 5 (by decide) (by kernel_rfl); unfold isV at d5; have d6 : isV _ (vs 6) w := hd 6 (by decide) (by kernel_rfl); unfold isV at d6; have d7 : isV _ (vs 7) w := hd 7 (by decide) (by kernel_rfl); unfold isV at d7; have d8 : isV _ (vs 8) w := hd 8 (by decide) (by kernel_rfl); unfold isV at d8; have d9 : isV _ (vs 9) w := hd 9 (by decide) (by kernel_rfl); unfold isV at d9; have d10 : isV _ (vs 10) w := hd 10 (by decide) (by kernel_rfl); unfold isV at d10; have d11 : isV _ (vs 11) w := hd 11 (by decide) (by kernel_rfl); unfold isV at d11; have d12 : isV _ (vs 12) w := hd 12 (by decide) (by kernel_rfl); unfold isV at d12; have d13 : isV _ (vs 13) w := hd 13 (by decide) (by kernel_rfl); unfold isV at d13; have d14 := hd 14 (by decide) (by kernel_rfl); simp only [TR, Nat.reduceAdd, Nat.reduceSub, List.getD_cons_zero, List.getD_cons_succ] at d14; have d15 := hd 15 (by decide) (by kernel_rfl); simp only [TR, Nat.reduceAdd, Nat.reduceSub, List.getD_cons_zero, List.getD_cons_succ] at d15; have d16 : isV _ (vs 16) w := hd 16 (by decide) (by kernel_rfl); unfold isV at d16; clear hd; simp only [List.take, putL, Act.put, List.setIfInBounds_toArray, List.set_cons_zero, List.set_cons_succ]; unfold StepOK; go_simp; exact ⟨Below.refl _ _, isV_mk _ _⟩
  refine RunN.store (by decide) ((fun w => ∃ F', DkIs w base p { D1 with fs := D1.fs.set k ⟨e.f.nm, e.f.b ++ bs, e.f.safe⟩ } F' ∧ ∀ q, F' q → F1 q ∨ W1.heap.size ≤ q)) (fun _ _ _ hb ⟨F2, h1, h2⟩ => ⟨F2, h1.below hb, h2⟩) ?_ ?_
  · intro vs w hb hd hj; have d0 : isV _ (vs 0) w := hd 0 (by decide) (by kernel_rfl); unfold isV at d0; have d1 : isV _ (vs 1) w := hd 1 (by decide) (by kernel_rfl); unfold isV at d1; have d2 : isV _ (vs 2) w := hd 2 (by decide) (by kernel_rfl); unfold isV at d2; have d3 : isV _ (vs 3) w := hd 3 (by decide) (by kernel_rfl); unfold isV at d3; have d4 : isV _ (vs 4) w := hd 4 (by decide) (by kernel_rfl); unfold isV at d4; have d5 : isV _ (vs 5) w := hd 5 (by decide) (by kernel_rfl); unfold isV at d5; have d6 : isV _ (vs 6) w := hd 6 (by decide) (by kernel_rfl); unfold isV at d6; have d7 : isV _ (vs 7) w := hd 7 (by decide) (by kernel_rfl); unfold isV at d7; have d8 : isV _ (vs 8) w := hd 8 (by decide) (by kernel_rfl); unfold isV at d8; have d9 : isV _ (vs 9) w := hd 9 (by decide) (by kernel_rfl); unfold isV at d9; have d10 : isV _ (vs 10) w := hd 10 (by decide) (by kernel_rfl); unfold isV at d10; have d11 : isV _ (vs 11) w := hd 11 (by decide) (by kernel_rfl); unfold isV at d11; have d12 : isV _ (vs 12) w := hd 12 (by decide) (by kernel_rfl); unfold isV at d12; have d13 : isV _ (vs 13) w := hd 13 (by decide) (by kernel_rfl); unfold isV at d13; have d14 := hd 14 (by decide) (by kernel_rfl); simp only [TR, Nat.reduceAdd, Nat.reduceSub, List.getD_cons_zero, List.getD_cons_succ] at d14; have d15 := hd 15 (by decide) (by kernel_rfl); simp only [TR, Nat.reduceAdd, Nat.reduceSub, List.getD_cons_zero, List.getD_cons_succ] at d15; have d17 : isV _ (vs 17) w := hd 17 (by decide) (by kernel_rfl); unfold isV at d17; clear hd; have hj2 := hj; (try simp only [prevE, lastV, List.mem_cons, List.not_mem_nil, or_false, Nat.reduceEqDiff, Nat.reduceAdd, if_true, if_false, reduceIte, or_true, true_or, or_self] at hj2); clear hj; obtain ⟨A3, c3, e15, o15⟩ := isCl_elim d15; obtain ⟨q0, q1, q2, q3⟩ := app_store hj2.2 he o15 hb.size HF1.out Hgd.out; simp only [List.take, putL, Act.put, List.setIfInBounds_toArray, List.set_cons_zero, List.set_cons_succ]; unfold StepE; go_simp; (try exact ⟨q2, q3⟩)
  intro vs w1 hb hd hj
  try simp only [prevE, lastV, List.mem_cons, List.not_mem_nil, or_false, Nat.reduceEqDiff, Nat.reduceAdd, if_true, if_false, reduceIte, or_true, true_or, or_self] at hj
  have e0 : isV _ (vs 0) w1 := hd 0 (by decide)
  have e1 : isV _ (vs 1) w1 := hd 1 (by decide)
  have e2 : isV _ (vs 2) w1 := hd 2 (by decide)
  have e3 : isV _ (vs 3) w1 := hd 3 (by decide)
  have e4 : isV _ (vs 4) w1 := hd 4 (by decide)
  have e5 : isV _ (vs 5) w1 := hd 5 (by decide)
  have e6 : isV _ (vs 6) w1 := hd 6 (by decide)
  have e7 : isV _ (vs 7) w1 := hd 7 (by decide)
  have e8 : isV _ (vs 8) w1 := hd 8 (by decide)
  have e9 : isV _ (vs 9) w1 := hd 9 (by decide)
  have e10 : isV _ (vs 10) w1 := hd 10 (by decide)
  have e11 : isV _ (vs 11) w1 := hd 11 (by decide)
  have e12 : isV _ (vs 12) w1 := hd 12 (by decide)
  have e13 : isV _ (vs 13) w1 := hd 13 (by decide)
  have e14 := hd 14 (by decide); simp only [TR, Nat.reduceAdd, Nat.reduceSub, List.getD_cons_zero, List.getD_cons_succ] at e14
  have e15 := hd 15 (by decide); simp only [TR, Nat.reduceAdd, Nat.reduceSub, List.getD_cons_zero, List.getD_cons_succ] at e15
  have e16 : isV _ (vs 16) w1 := hd 16 (by decide)
  have e17 : isV _ (vs 17) w1 := hd 17 (by decide)
  clear hd
  unfold isV at e0 e1 e2 e3 e4 e5 e6 e7 e8 e9 e10 e11 e12 e13 e16 e17
  simp only [putL, Act.put, List.setIfInBounds_toArray, List.set_cons_zero, List.set_cons_succ, e0, e1, e2, e3, e4, e5, e6, e7, e8, e9, e10, e11, e12, e13, e16, e17]
  clear e0 e1 e2 e3 e4 e5 e6 e7 e8 e9 e10 e11 e12 e13 e16 e17
  --@end
  have Hj := Lib.hid hj
  have Hb := Lib.hid hb
  clear hj hb
  go_wp2_with fail
  go_end0
  obtain ⟨F', k1, k2⟩ := Hj.out
  rw [Hfin.out] at k1
  refine ⟨rfl, F', k1, ?_⟩
  have hc := Hb.out
  have h0 := Hcg.out
  exact ⟨hc.os.trans h0.os, hc.tape.trans h0.tape, hc.output.trans h0.output, Nat.le_trans h0.size hc.size, fun q hq hf => (hc.block q (Nat.lt_of_lt_of_le hq h0.size) (fun e2 => by
      unfold Gk at e2
      rcases HF1n.out q (by rw [e2]; exact hfg.1) with h5 | h5
      · exact hf h5
      · omega)).trans (h0.block q hq hf), fun q hq => by
    rcases k2 q hq with h5 | h5
    · exact HF1n.out q h5
    · exact .inr (Nat.le_trans h0.size h5)⟩
end
end Go.Proofs.YtemegkapmgcffaaGreat
