import Derived.Test.YtemegkapmgcffaaLibN
import Derived.Maps.AppendAt
/- slices.Insert of one element, at slices that the call owns. -/
namespace Go.Proofs.Ytemegkapmgcffaa
open Go.RowKit
set_option linter.unusedSimpArgs false
set_option linter.unusedVariables false

/-- where a row lies now: where it lay, or in new memory -/
def LiesI (w : World) (A A' : Option Addr) : Prop := ∀ a, A' = some a → (∃ b, A = some b ∧ b.block = a.block) ∨ w.heap.size ≤ a.block
theorem lies_own {w : World} {A A' : Option Addr} {n c n' c' : Nat} (h : (Value.slice A' n' c').ownBlock = (Value.slice A n c).ownBlock ∨ (Value.slice A' n' c').ownBlock = some w.heap.size) : LiesI w A A' := by
  intro a ha
  subst ha
  rcases h with h | h
  · cases A with
    | none => simp [Value.ownBlock] at h
    | some b => simp [Value.ownBlock] at h; exact .inl ⟨b, rfl, h.symm⟩
  · simp [Value.ownBlock] at h; exact .inr (by omega)
theorem infoIF : (Try.prog.info? 117).map (fun i => (i.zero, i.size, i.bytes)) = some (some (.agg #[.string { data := #[] }, .slice none 0 0, .int .i64 0]), 3, 48) := by kernel_rfl
theorem ownsRow_sliceI {w : World} {base size n : Nat} {e : TypeId} {v : Value} {cs : List Value} (h : w.ownsRow base e size v n cs) : ∃ A c, v = .slice A n c ∧ Own base e size w A n c cs := by
  have h0 := h
  rcases h.2 with ⟨rfl, hn⟩ | ⟨g, cap, cur, rfl, _⟩
  · subst hn
    exact ⟨none, 0, rfl, h0⟩
  · exact ⟨_, _, rfl, h0⟩
theorem own_rowI {w : World} {base size n c : Nat} {e : TypeId} {A : Option Addr} {cs : List Value} (h : Own base e size w A n c cs) : (Value.slice A n c).ownBlock = rowOf base A := by
  cases A with
  | none => rfl
  | some a =>
    have := (World.ownsRow.lt h a.block rfl).1
    simp [Value.ownBlock, rowOf, this]
set_option maxRecDepth 100000 in
set_option maxHeartbeats 2000000 in
theorem insF_end (base : Nat) (A : Option Addr) (n c vb : Nat) (F X : List Value) (w : World) (ho : Own base 117 3 w A n c F) (hn : n ≤ 1000000) (hx : w.heap[vb]? = some (.cells X.toArray 117 (0, 0))) (hxl : X.length = 3) (h1 : ∀ u ∈ X, u.oneCell' = true) (hb : base ≤ w.heap.size) :
    Calls Try.prog 86 #[.slice A n c, .int .i64 n, .slice (some ⟨vb, 0, none⟩) 1 1] w fun e w' => ∃ A' c', e = .returned (.slice A' (n + 1) c') ∧ Own base 117 3 w' A' (n + 1) c' (F ++ X) ∧ w.grownBy w' (rowOf base A) ∧ LiesI w A A' := by
  have hle := ho.sl.le
  have hcm : c ≤ 9223372036854775807 := by
    rcases ho.2 with ⟨h, _⟩ | ⟨g, cap, cur, h, _, _, _, hm, _⟩
    · simp at h; omega
    · simp at h; unfold maxLen at hm; omega
  have hsx : Sl w 3 (some ⟨vb, 0, none⟩) 1 1 X := sl_of_block hx hxl
  obtain ⟨i0, hi, hz0, hz1, hz2⟩ := info_parts infoIF
  go_enter Try.func86, Try.ntmps86
  go_wp2_with (at_builtin; refine wpList_append_own_at _ rfl (.tmp 23) (.tmp 24) 35 rfl base 117 i0 (.agg #[.string { data := #[] }, .slice none 0 0, .int .i64 0]) 3 48 Try.underlying35 hi hz0 hz1 hz2 rfl (by decide) _ n F rfl ho ⟨vb, 0, none⟩ 1 1 X rfl hxl (fun j u hj => by obtain ⟨ad', e1, e2⟩ := hsx.cells j u hj; cases e1; exact e2) h1 (by unfold maxLen; omega) (by omega) hb ?_; intro v' w2 hown2 hgrow2 hnil2 hloc2)
  all_goals
    go_ret
    obtain ⟨A', c', rfl, h2⟩ := ownsRow_sliceI hown2
    exact ⟨A', c', rfl, h2, by rw [← own_rowI ho]; exact hgrow2, lies_own hloc2⟩

set_option maxRecDepth 100000 in
set_option maxHeartbeats 2000000 in
theorem insF_shift (base g n c i vb : Nat) (F X : List Value) (w : World) (ho : Own base 117 3 w (some ⟨g, 0, none⟩) n c F) (hn : n ≤ 1000000) (hi : i < n) (hc : n < c) (hvg : vb ≠ g) (hx : w.heap[vb]? = some (.cells X.toArray 117 (0, 0))) (hxl : X.length = 3) (h1 : ∀ u ∈ X, u.oneCell' = true) (hF1 : ∀ u ∈ F, u.oneCell' = true) :
    Calls Try.prog 86 #[.slice (some ⟨g, 0, none⟩) n c, .int .i64 i, .slice (some ⟨vb, 0, none⟩) 1 1] w fun e w' => ∃ A' c', e = .returned (.slice A' (n + 1) c') ∧ Own base 117 3 w' A' (n + 1) c' (F.take (i * 3) ++ (X ++ F.drop (i * 3))) ∧ w.grownBy w' (some g) ∧ LiesI w (some ⟨g, 0, none⟩) A' := by
  obtain ⟨hFl, ho2⟩ := ho
  rcases ho2 with ⟨h, _⟩ | ⟨g', cap, cur, h, hbg, hg, hle, hcm, hcs, htk⟩
  · simp at h
  simp at h
  obtain ⟨rfl, rfl⟩ := h
  have hcm2 : c ≤ 9223372036854775807 := by unfold maxLen at hcm; exact hcm
  have hsx : Sl w 3 (some ⟨vb, 0, none⟩) 1 1 X := sl_of_block hx hxl
  have hsz : (Try.prog.info? 117).map (·.size) = some 3 := by
    obtain ⟨i0, h0, _, h2, _⟩ := info_parts infoIF
    rw [h0]; simp [h2]
  obtain ⟨D, hD⟩ : ∃ D, D = F.drop (i * 3) := ⟨_, rfl⟩
  have hDl : D.length = (n - i) * 3 := by rw [hD, List.length_drop, hFl, Nat.sub_mul]
  have hcurF : cur.toList = F.take (i * 3) ++ (D ++ cur.toList.drop (n * 3)) := by
    rw [← List.append_assoc, hD, List.take_append_drop, ← htk, List.take_append_drop]
  have hw1 : IntKind.i64.wrap ((i : Int) + 1) = (i : Int) + 1 := by rw [IntKind.wrap_i64]; omega
  have hb1 : (0 : Int) ≤ (i : Int) + 1 := by omega
  have hin : i ≤ n := by omega
  have htn : ((i : Int) + 1).toNat = i + 1 := by omega
  have hb2 : ¬ (c = i + 1) := by omega
  have hb3 : (i : Int) ≤ (n : Int) + 1 := by omega
  have hb4 : ¬ (c = i) := by omega
  have hmin : Nat.min (n + 1 - i) (n - i) = n - i := by simp only [Nat.min_def]; split <;> omega
  have hfit1 : (i + 1) * 3 + D.length ≤ cur.size := by rw [hDl, hcs]; omega
  have hcp1 : ∀ ty dc sc, (Builtin.copy_ #[35, 35] ty #[.slice (some ⟨g, (i + 1) * 3, none⟩) (n - i) dc, .slice (some ⟨g, i * 3, none⟩) (n + 1 - i) sc]).run Try.prog w.drew = .ok (goInt (Nat.min (n + 1 - i) (n - i))) (w.drew.setRow g (splice cur.toList ((i + 1) * 3) D).toArray) := fun ty dc sc =>
    run_copyN w.drew _ _ ty 117 3 Try.underlying35 hsz _ _ _ _ _ _ g ((i + 1) * 3) cur 117 hg D (by rw [hDl, hmin])
      (fun _ => ⟨rfl, _, rfl, fun j v hj => by
        rw [Addr.add_lit]
        have : F[i * 3 + j]? = some v := by rw [hD, List.getElem?_drop] at hj; exact hj
        rw [← htk, List.getElem?_take] at this
        split at this
        · show w.cell? _ = _
          simp only [World.cell?, hg]
          simpa using this
        · cases this⟩) hfit1 (fun u hu => hF1 u (by rw [hD] at hu; exact List.mem_of_mem_drop hu))
  have hz9 : ∀ w, (Go.sizeOf 117).run Try.prog w = .ok 3 w := fun w => by kernel_rfl
  have hcpos : cur.size ≠ 0 := by omega
  have hov : ∀ off lb cb, (callFunc 125 #[.slice (some ⟨vb, 0, none⟩) 1 1, .slice (some ⟨g, off, none⟩) lb cb]).run Try.prog w = .ok (.value (.bool false)) w := fun off lb cb => by
    rw [run_callFunc_extern Try.func125 (by kernel_rfl) (by kernel_rfl) (by kernel_rfl) (e := Extern.SlicesOverlaps.overlaps #[35, 35] #[4]) (by kernel_rfl),
      Lib.run_overlaps_apart w 35 4 117 Try.underlying35 3 hz9 ⟨vb, 0, none⟩ ⟨g, off, none⟩ 1 1 lb cb hvg 117 117 X.toArray.size cur.size (by simp [World.shape?, hx]) (by simp [World.shape?, hg]) hcpos (by simp [World.frozen?, hx]) (by simp [World.frozen?, hx])]
    rfl
  have hL1l : (splice cur.toList ((i + 1) * 3) D).length = cur.size := by rw [length_splice _ _ _ (by simpa using hfit1)]; simp
  have hmin2 : Nat.min 1 (n + 1 - i) = 1 := by simp only [Nat.min_def]; split <;> omega
  have hg1 : (w.drew.setRow g (splice cur.toList ((i + 1) * 3) D).toArray).heap[g]? = some (.cells (splice cur.toList ((i + 1) * 3) D).toArray 117 (0, 0)) := setRow_heap w.drew g cur _ 117 (0, 0) hg
  have hfit2 : i * 3 + X.length ≤ (splice cur.toList ((i + 1) * 3) D).toArray.size := by rw [List.size_toArray, hL1l, hxl, hcs]; omega
  have hcp2 : ∀ ty dc sc, (Builtin.copy_ #[35, 35] ty #[.slice (some ⟨g, i * 3, none⟩) (n + 1 - i) dc, .slice (some ⟨vb, 0, none⟩) 1 sc]).run Try.prog (w.drew.setRow g (splice cur.toList ((i + 1) * 3) D).toArray) = .ok (goInt (Nat.min 1 (n + 1 - i))) ((w.drew.setRow g (splice cur.toList ((i + 1) * 3) D).toArray).setRow g (splice (splice cur.toList ((i + 1) * 3) D).toArray.toList (i * 3) X).toArray) := fun ty dc sc =>
    run_copyN (w.drew.setRow g (splice cur.toList ((i + 1) * 3) D).toArray) _ _ ty 117 3 Try.underlying35 hsz _ _ _ _ _ _ g (i * 3) _ 117 hg1 X (by rw [hmin2, hxl])
      (fun _ => ⟨rfl, _, rfl, fun j v hj => by
        obtain ⟨ad', e1, e2⟩ := hsx.cells j v hj
        cases e1
        rw [cell_setRow_other _ _ _ _ (by unfold Addr.add; split <;> exact hvg)]
        exact e2⟩) hfit2 h1
  have HcurF := Lib.hid hcurF
  have Hcs := Lib.hid hcs
  have HD := Lib.hid hD
  have HDl := Lib.hid hDl
  have HFl := Lib.hid hFl
  have Hg := Lib.hid hg
  have Hx := Lib.hid hx
  have Hxl := Lib.hid hxl
  have Hfit1 := Lib.hid hfit1
  have Hsx := Lib.hid hsx
  have Hmin := Lib.hid hmin
  clear hL1l hmin2 hg1 hfit2 hcurF hcs hD hDl hFl hg hx hxl htk hfit1 hsx hmin hcpos hz9 hsz
  go_enter Try.func86, Try.ntmps86
  go_wp2_with (simp only [hov])
  go_region_law (refine step_copyR rfl _ _ 35 35 rfl _ _ (by simp [Act.eval, Act.put]) (by simp [Act.eval, Act.put]) (hcp1 _ _ _) ?_)
  go_wp2_with (at_builtin; refine wpList_copyR _ rfl _ _ 35 35 rfl _ _ rfl rfl (hcp2 _ _ _) ?_)
  go_ret
  have hcurF := HcurF.out
  have hDl := HDl.out
  have hFl := HFl.out
  have hcs := Hcs.out
  have hxl := Hxl.out
  have hfit1 := Hfit1.out
  have hg1 : (w.drew.setRow g (splice cur.toList ((i + 1) * 3) D).toArray).heap[g]? = some (.cells (splice cur.toList ((i + 1) * 3) D).toArray 117 (0, 0)) := setRow_heap w.drew g cur _ 117 (0, 0) Hg.out
  have hL1l : (splice cur.toList ((i + 1) * 3) D).length = cur.size := by rw [length_splice _ _ _ (by simpa using hfit1)]; simp
  have htl : (F.take (i * 3)).length = i * 3 := by rw [List.length_take, hFl]; omega
  have hRl : (cur.toList.drop (n * 3)).length = cur.size - n * 3 := by simp
  have hsh := splice_shift (F.take (i * 3)) D (cur.toList.drop (n * 3)) X (by omega)
  rw [← hcurF, htl, hxl, hDl, show i * 3 + 3 = (i + 1) * 3 by omega, show (i + 1) * 3 + (n - i) * 3 = (n + 1) * 3 by omega] at hsh
  refine ⟨_, _, rfl, ⟨by rw [← HD.out, List.length_append, List.length_append, htl, hxl, hDl]; omega, .inr ⟨g, c, _, rfl, hbg, setRow_heap _ g _ _ 117 (0, 0) hg1, by omega, hcm, ?_, ?_⟩⟩, ?_, fun a ha => by cases ha; exact .inl ⟨_, rfl, rfl⟩⟩
  · rw [List.size_toArray, length_splice _ _ _ (by simp only [List.length_append, hL1l, hxl]; omega)]
    simp only [hL1l, hcs]
  · rw [← HD.out]
    simpa using hsh
  · refine ⟨rfl, rfl, rfl, by simp [World.setRow], fun k hk hne => ?_⟩
    have hkg : k ≠ g := fun e => hne (by rw [e])
    rw [setRow_other _ g k _ hkg, setRow_other _ g k _ hkg]
    rfl

set_option maxRecDepth 100000 in
set_option maxHeartbeats 2000000 in
theorem insF_grow (base g n i vb : Nat) (F X : List Value) (w : World) (ho : Own base 117 3 w (some ⟨g, 0, none⟩) n n F) (hn : n ≤ 1000000) (hi : i < n) (hx : w.heap[vb]? = some (.cells X.toArray 117 (0, 0))) (hxl : X.length = 3) (h1 : ∀ u ∈ X, u.oneCell' = true) (hF1 : ∀ u ∈ F, u.oneCell' = true) (hb : base ≤ w.heap.size) :
    Calls Try.prog 86 #[.slice (some ⟨g, 0, none⟩) n n, .int .i64 i, .slice (some ⟨vb, 0, none⟩) 1 1] w fun e w' => ∃ A' c', e = .returned (.slice A' (n + 1) c') ∧ Own base 117 3 w' A' (n + 1) c' (F.take (i * 3) ++ (X ++ F.drop (i * 3))) ∧ w.grownBy w' (some g) ∧ LiesI w (some ⟨g, 0, none⟩) A' := by
  have hFl := ho.1
  have hsF := ho.sl
  have hgl := (World.ownsRow.lt ho g rfl).2
  have hcm : n ≤ maxLen := by unfold maxLen; omega
  have hsx : Sl w 3 (some ⟨vb, 0, none⟩) 1 1 X := sl_of_block hx hxl
  have hvl : vb < w.heap.size := (Array.getElem?_eq_some_iff.1 hx).1
  have hsz : (Try.prog.info? 117).map (·.size) = some 3 := by
    obtain ⟨i0, h0, _, h2, _⟩ := info_parts infoIF
    rw [h0]; simp [h2]
  obtain ⟨D, hD⟩ : ∃ D, D = F.drop (i * 3) := ⟨_, rfl⟩
  have hDl : D.length = (n - i) * 3 := by rw [hD, List.length_drop, hFl, Nat.sub_mul]
  have htl : (F.take (i * 3)).length = i * 3 := by rw [List.length_take, hFl]; omega
  obtain ⟨k, hk⟩ : ∃ k, k = n + 1 - i := ⟨_, rfl⟩
  obtain ⟨m, C, hgrow, hm1, hm2, hCl, hCt⟩ : ∃ (m : Nat) (C : Array Value), (∀ ty, (Builtin.append_ #[35, 3] ty #[.slice (some ⟨g, 0, none⟩) i n, .int .i64 (k : Int)]).run Try.prog w = .ok (.slice (some ⟨w.heap.size, 0, none⟩) (n + 1) m) (w.drew.alloc (.cells C 117))) ∧ n + 1 ≤ m ∧ m ≤ maxLen ∧ C.size = m * 3 ∧ C.toList.take (i * 3) = F.take (i * 3) := by
    obtain ⟨i0, hi0, hz, hs2, hby⟩ := info_parts infoIF
    have hold : (Builtin.firstCells i0.size i (.slice (some ⟨g, 0, none⟩) i n)).run Try.prog w.drew = .ok (F.take (i * 3)).toArray w.drew := by
      rw [hs2]
      exact run_firstCells_some (P := Try.prog) w.drew 3 i _ i n (F.take (i * 3)) (by rw [htl]) (fun j u hj => by
        rw [List.getElem?_take] at hj
        split at hj
        · obtain ⟨ad, e, h⟩ := hsF.cells j u hj; cases e; exact h
        · cases hj)
    refine ⟨grownCap w (i + k) n 117, (F.take (i * 3)).toArray ++ Builtin.zeroCells (Value.agg #[.string { data := #[] }, .slice none 0 0, .int .i64 0]).cells k ++ Builtin.zeroCells (Value.agg #[.string { data := #[] }, .slice none 0 0, .int .i64 0]).cells (grownCap w (i + k) n 117 - (i + k)), fun ty => ?_, ?_, ?_, ?_, ?_⟩
    · have := Lib.run_append_grow_zeros (P := Try.prog) w 35 3 ty 117 i0 (.agg #[.string { data := #[] }, .slice none 0 0, .int .i64 0]) .i64 .i64 Try.underlying35 Try.underlying3 hi0 hz (some ⟨g, 0, none⟩) i n (F.take (i * 3)) hold k (by omega) (by omega) (by omega) (by omega) (by rw [hby]; omega)
        (Nat.le_trans (growslice_fits (by omega) (by rw [hby]; omega)) (by omega))
      rw [show n + 1 = i + k by omega]
      exact this
    · have := grownCap_ge w (i + k) n 117; omega
    · exact grownCap_le_maxLen w _ _ _ (by unfold maxLen; omega)
    · have := grownCap_ge w (i + k) n 117
      have hz2 : (Value.agg #[.string { data := #[] }, .slice none 0 0, .int .i64 0]).cells.size = 3 := rfl
      simp only [Array.size_append, size_zeroCells, List.size_toArray, htl, hz2]
      omega
    · simp only [Array.toList_append, List.append_assoc]
      rw [List.take_append_of_le_length (by simp; omega)]
      show (F.take (i * 3)).take (i * 3) = _
      rw [List.take_take, Nat.min_self]
  obtain ⟨r, hr⟩ : ∃ r, r = w.heap.size := ⟨_, rfl⟩
  rw [← hr] at hgrow hgl hvl
  obtain ⟨W2, hW2⟩ : ∃ W2, W2 = w.drew.alloc (.cells C 117) := ⟨_, rfl⟩
  rw [← hW2] at hgrow
  have hb2 : Below w.heap.size w W2 := by rw [hW2]; exact (Below.refl _ _).drew.alloc (by simp) _
  have hg2 : W2.heap[r]? = some (.cells C 117 (0, 0)) := by rw [hW2, hr]; exact Array.getElem?_push_size
  have hw1 : IntKind.i64.wrap ((i : Int) + 1) = (i : Int) + 1 := by rw [IntKind.wrap_i64]; omega
  have hw2 : IntKind.i64.wrap ((n : Int) + 1 - (i : Int)) = (k : Int) := by rw [IntKind.wrap_i64]; omega
  have hw3 : (n : Int) + 1 - (i : Int) = (k : Int) := by omega
  have hnn : ¬ ((n : Int) + 1 ≤ (n : Int)) := by omega
  have hin : i ≤ n := by omega
  have htn : ((i : Int) + 1).toNat = i + 1 := by omega
  have hq2 : ¬ (m = i + 1) := by omega
  have hq4 : ¬ (m = i) := by omega
  have hq5 : ¬ (n = i) := by omega
  have hb1 : (0 : Int) ≤ (i : Int) + 1 := by omega
  have hb3 : (i : Int) ≤ (n : Int) + 1 := by omega
  have hmin1 : Nat.min 1 (n + 1 - i) = 1 := by simp only [Nat.min_def]; split <;> omega
  have hmin2 : Nat.min (n - i) (n - i) = n - i := by simp
  have hcp1 : ∀ ty dc sc, (Builtin.copy_ #[35, 35] ty #[.slice (some ⟨r, i * 3, none⟩) (n + 1 - i) dc, .slice (some ⟨vb, 0, none⟩) 1 sc]).run Try.prog W2 = .ok (goInt (Nat.min 1 (n + 1 - i))) (W2.setRow r (splice C.toList (i * 3) X).toArray) := fun ty dc sc =>
    run_copyN W2 _ _ ty 117 3 Try.underlying35 hsz _ _ _ _ _ _ r (i * 3) C 117 hg2 X (by rw [hmin1, hxl])
      (fun _ => ⟨rfl, _, rfl, fun j v hj => by
        obtain ⟨ad', e1, e2⟩ := (hsx.below hb2).cells j v hj
        cases e1
        exact e2⟩) (by rw [hxl, hCl]; omega) h1
  obtain ⟨W3, hW3⟩ : ∃ W3, W3 = W2.setRow r (splice C.toList (i * 3) X).toArray := ⟨_, rfl⟩
  rw [← hW3] at hcp1
  have hg3 : W3.heap[r]? = some (.cells (splice C.toList (i * 3) X).toArray 117 (0, 0)) := by rw [hW3]; exact setRow_heap W2 r C _ 117 (0, 0) hg2
  have hb3' : Below w.heap.size w W3 := by rw [hW3]; exact below_setRow hb2 (by omega) _
  have hl3 : (splice C.toList (i * 3) X).length = m * 3 := by rw [length_splice _ _ _ (by rw [hxl]; simp only [Array.length_toList, hCl]; omega)]; simpa using hCl
  have hcp2 : ∀ ty dc sc, (Builtin.copy_ #[35, 35] ty #[.slice (some ⟨r, (i + 1) * 3, none⟩) (n - i) dc, .slice (some ⟨g, i * 3, none⟩) (n - i) sc]).run Try.prog W3.drew = .ok (goInt (Nat.min (n - i) (n - i))) (W3.drew.setRow r (splice (splice C.toList (i * 3) X).toArray.toList ((i + 1) * 3) D).toArray) := fun ty dc sc =>
    run_copyN W3.drew _ _ ty 117 3 Try.underlying35 hsz _ _ _ _ _ _ r ((i + 1) * 3) _ 117 hg3 D (by rw [hmin2, hDl])
      (fun _ => ⟨rfl, _, rfl, fun j v hj => by
        rw [Addr.add_lit]
        have hjF : F[i * 3 + j]? = some v := by rw [hD, List.getElem?_drop] at hj; exact hj
        obtain ⟨ad', e1, e2⟩ := (hsF.below hb3').cells (i * 3 + j) v hjF
        cases e1
        have e3 : (⟨g, 0, none⟩ : Addr).add (i * 3 + j) = ⟨g, i * 3 + j, none⟩ := by unfold Addr.add; split <;> simp_all
        rw [e3] at e2
        exact e2⟩) (by rw [List.size_toArray, hl3, hDl]; omega) (fun u hu => hF1 u (by rw [hD] at hu; exact List.mem_of_mem_drop hu))
  have Hcl := Lib.hid hCl
  have HCt := Lib.hid hCt
  have HD := Lib.hid hD
  have HDl := Lib.hid hDl
  have HFl := Lib.hid hFl
  have Hg3 := Lib.hid hg3
  have Hb3 := Lib.hid hb3'
  have Hxl := Lib.hid hxl
  have Hl3 := Lib.hid hl3
  have Htl := Lib.hid htl
  have Hr := Lib.hid hr
  have Hb := Lib.hid hb
  clear hb3' hCl hCt hD hDl hFl hg3 hxl hl3 htl hb2 hg2 hx hsx hmin1 hmin2 hsz ho hsF hr hW2 hW3 hk hb
  go_enter Try.func86, Try.ntmps86
  go_wp2_with (first | (at_builtin; refine Lib.wpList_append_run _ rfl (.tmp 34) (.tmp 39) 35 3 rfl _ _ rfl rfl _ _ (hgrow _) ?_) | (refine wpList_copyR _ rfl (.tmp 43) (.tmp 44) 35 35 rfl _ _ rfl rfl (hcp1 _ _ _) ?_))
  go_region_law (refine step_copyR rfl _ _ 35 35 rfl _ _ (by simp [Act.eval, Act.put]) (by simp [Act.eval, Act.put]) (hcp2 _ _ _) ?_)
  go_wp2_with fail
  go_ret
  have hDl := HDl.out
  have hFl := HFl.out
  have hCl := Hcl.out
  have hxl := Hxl.out
  have hl3 := Hl3.out
  have htl := Htl.out
  have hr := Hr.out
  have hb := Hb.out
  have hse := splice_seq C.toList X D (i * 3) (by simp only [Array.length_toList, hCl, hxl, hDl]; omega)
  rw [hxl, hDl, show i * 3 + 3 = (i + 1) * 3 by omega, show (i + 1) * 3 + (n - i) * 3 = (n + 1) * 3 by omega, HCt.out] at hse
  refine ⟨_, _, rfl, ⟨by rw [← HD.out, List.length_append, List.length_append, htl, hxl, hDl]; omega, .inr ⟨r, m, _, rfl, by omega, setRow_heap _ r _ _ 117 (0, 0) Hg3.out, by omega, hm2, ?_, ?_⟩⟩, ?_, fun a ha => by cases ha; exact .inr (by simp only; omega)⟩
  · rw [List.size_toArray, length_splice _ _ _ (by simp only [hl3, hDl]; omega)]
    simp only [hl3]
  · rw [← HD.out]
    simpa using hse
  · have hq := below_setRow (Hb3.out.drew) (g := r) (by omega) (splice (splice C.toList (i * 3) X).toArray.toList ((i + 1) * 3) D).toArray
    exact below_grownBy hq _

/-- slices.Insert of one element, wherever it goes -/
theorem insF_any (base : Nat) (A : Option Addr) (n c i vb : Nat) (F X : List Value) (w : World) (ho : Own base 117 3 w A n c F) (hn : n ≤ 1000000) (hi : i ≤ n) (hne : ∀ a, A = some a → a.block ≠ vb) (hx : w.heap[vb]? = some (.cells X.toArray 117 (0, 0))) (hxl : X.length = 3) (h1 : ∀ u ∈ X, u.oneCell' = true) (hF1 : ∀ u ∈ F, u.oneCell' = true) (hb : base ≤ w.heap.size) :
    Calls Try.prog 86 #[.slice A n c, .int .i64 i, .slice (some ⟨vb, 0, none⟩) 1 1] w fun e w' => ∃ A' c', e = .returned (.slice A' (n + 1) c') ∧ Own base 117 3 w' A' (n + 1) c' (F.take (i * 3) ++ (X ++ F.drop (i * 3))) ∧ w.grownBy w' (rowOf base A) ∧ LiesI w A A' := by
  rcases Nat.lt_or_ge i n with h | h
  · have hle := ho.sl.le
    have hAd : ∃ g, A = some ⟨g, 0, none⟩ := by
      rcases ho.2 with ⟨h0, h00⟩ | ⟨g, cap, cur, h0, _⟩
      · omega
      · simp at h0; exact ⟨g, h0.1⟩
    obtain ⟨g, rfl⟩ := hAd
    have hrow : rowOf base (some ⟨g, 0, none⟩) = some g := by rw [← own_rowI ho]; rfl
    rw [hrow]
    rcases Nat.lt_or_ge n c with hc | hc
    · exact insF_shift base g n c i vb F X w ho hn h hc (fun e => hne _ rfl e.symm) hx hxl h1 hF1
    · obtain rfl : c = n := by omega
      exact insF_grow base g c i vb F X w ho hn h hx hxl h1 hF1 hb
  · obtain rfl : i = n := by omega
    refine (insF_end base A i c vb F X w ho hn hx hxl h1 hb).mono fun e w' ⟨A', c', h1, h2, h3⟩ => ⟨A', c', h1, ?_, h3⟩
    have hl := ho.1
    rw [List.take_of_length_le (by omega), List.drop_of_length_le (by omega), List.append_nil]
    exact h2
end Go.Proofs.Ytemegkapmgcffaa
