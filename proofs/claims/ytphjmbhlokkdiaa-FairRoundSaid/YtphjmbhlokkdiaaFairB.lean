import Derived.Test.YtphjmbhlokkdiaaFairA
namespace Go.Proofs.Ytphjmbhlokkdiaa
open Go.RowKit
set_option linter.unusedSimpArgs false
set_option linter.unusedVariables false

theorem infoTn : (Try.prog.info? 51).map (fun i => (i.zero, i.size, i.bytes)) = some (some (Tn.v ⟨[], 0, 0⟩), 3, 32) := by kernel_rfl
theorem ownsRow_slice {w : World} {base size n : Nat} {e : TypeId} {v : Value} {cs : List Value} (h : w.ownsRow base e size v n cs) : ∃ A c, v = .slice A n c ∧ Own base e size w A n c cs := by
  have h0 := h
  rcases h.2 with ⟨rfl, hn⟩ | ⟨g, cap, cur, rfl, _⟩
  · subst hn
    exact ⟨none, 0, rfl, h0⟩
  · exact ⟨_, _, rfl, h0⟩
theorem tnCells_one (ts : List Tn) : ∀ u ∈ flatT ts, u.oneCell' = true := by
  intro u hu
  simp only [flatT, List.mem_flatMap, Tn.cells, List.mem_cons, List.not_mem_nil, or_false] at hu
  obtain ⟨t, _, rfl | rfl | rfl⟩ := hu <;> rfl
set_option maxRecDepth 100000 in
set_option maxHeartbeats 1000000 in
theorem cloneT_any (A : Option Addr) (m d : Nat) (ts : List Tn) (w : World) (hs : Sl w 3 A m d (flatT ts)) (hm : m ≤ 1000000) :
    Calls Try.prog 88 #[.slice A m d] w fun e w' => ∃ A' c', e = .returned (.slice A' m c') ∧ Own w.heap.size 51 3 w' A' m c' (flatT ts) ∧ Below w.heap.size w w' := by
  cases A with
  | none =>
    obtain ⟨rfl, rfl⟩ := hs.none rfl
    have hl := hs.len
    obtain rfl : ts = [] := by rw [flatT_len] at hl; exact List.eq_nil_of_length_eq_zero (by omega)
    have hnil : ∀ W, (binOp .eql 34 (.slice none 0 0) (.slice none 0 0)).run Try.prog W = .ok (.bool true) W := fun W => Lib.run_eql_slice_nil_nil W _ _ Try.underlying34
    go_enter Try.func88, Try.ntmps88
    go_wp2_with fail
    go_ret
    exact ⟨none, 0, rfl, World.ownsRow_nil _ _ _ _, Below.refl _ _⟩
  | some ad =>
    obtain ⟨i0, hi, hz0, hz1, hz2⟩ := info_parts infoTn
    have hown : (w.alloc (.cells #[] 51)).ownsRow w.heap.size 51 3 (.slice (some ⟨w.heap.size, 0, none⟩) 0 0) 0 [] := World.ownsRow_lit w #[] 0 (Nat.le_refl _) (by unfold maxLen; omega) rfl
    have hb := below_alloc1 w (.cells #[] 51)
    have hnil : ∀ W, (binOp .eql 34 (.slice (some ad) m d) (.slice none 0 0)).run Try.prog W = .ok (.bool false) W := fun W => Lib.run_eql_slice_some_nil W _ _ _ Try.underlying34
    go_enter Try.func88, Try.ntmps88
    go_wp2_with (at_builtin; refine wpList_append_own _ rfl _ _ 34 rfl w.heap.size 51 i0 (Tn.v ⟨[], 0, 0⟩) 3 32 Try.underlying34 hi hz0 hz1 hz2 rfl (by decide) _ 0 [] rfl hown ad m d (flatT ts) rfl hs.len (fun j u hj => by obtain ⟨ad', h1, h2⟩ := (hs.below hb).cells j u hj; cases h1; exact h2) (tnCells_one ts) (by unfold maxLen; omega) (by omega) (by simp) ?_; intro v' w2 hown2 hgrow2 hnil2)
    go_ret
    obtain ⟨A', c', rfl, h2⟩ := ownsRow_slice hown2
    refine ⟨A', c', by simp, by simpa using h2, hb.trans ((Below.refl _ _).grown hgrow2 (by simp) (fun k hk => by cases hk; exact Nat.le_refl _))⟩
/-- turns by value -/
def frV (Q : Int) (A : Option Addr) (n c : Nat) (At : Int) (H : Bool) : Value := .agg #[.int .i64 Q, .slice A n c, .int .i64 At, .bool H]
def frC (Q : Int) (A : Option Addr) (n c : Nat) (At : Int) (H : Bool) : List Value := [.int .i64 Q, .slice A n c, .int .i64 At, .bool H]
set_option maxRecDepth 100000 in
set_option maxHeartbeats 1000000 in
theorem place_any (Q : Int) (A : Option Addr) (m d : Nat) (At : Int) (H : Bool) (ts : List Tn) (s : List UInt8) (w : World) (hs : Sl w 3 A m d (flatT ts)) (hm : m ≤ 1000000) :
    Calls Try.prog 61 #[frV Q A m d At H, .string (bstr s)] w fun e w' => e = .returned (.int .i64 (placeI ts s)) ∧ Below w.heap.size w w' := by
  have hb0 := below_alloc1 w (.cells #[.int .i64 Q, .slice A m d, .int .i64 At, .bool H] 36)
  have hb1 := below_alloc1 (w.alloc (.cells #[.int .i64 Q, .slice A m d, .int .i64 At, .bool H] 36)) (.cells #[.string (bstr s)] 9)
  have hmf : ∀ (fn : Fn) (first cap : Array Value) (w : World), (Instr.makeFunc fn first cap).run Try.prog w = .ok (.func fn first cap) w := fun _ _ _ _ => rfl
  unfold frV
  go_enter Try.func61, Try.ntmps61
  go_wp2_with fail
  have hc : ((w.alloc (.cells #[.int .i64 Q, .slice A m d, .int .i64 At, .bool H] 36)).alloc (.cells #[.string (bstr s)] 9)).cell? ⟨w.heap.size + 1, 0, none⟩ = some (.string (bstr s)) := by
    obtain ⟨a, h1, h2⟩ := (sl_cells (w.alloc (.cells #[.int .i64 Q, .slice A m d, .int .i64 At, .bool H] 36)) [.string (bstr s)] 9).cells 0 _ rfl
    cases h1
    simp [Addr.add]
  have hb2 := hb0.trans (hb1.mono hb0.size)
  have hs2 := (hs.below hb0).below hb1
  refine (indexT_any ts A m d (w.heap.size + 1) s _ hs2 hm hc).mono ?_; rintro x w3 ⟨rfl, hb3⟩
  go_wp2_with fail
  go_ret
  exact ⟨rfl, hb2.trans (hb3.mono hb2.size)⟩

theorem results_cell0 {fn : Func} {t : Tmp} {ty : TypeId} (h : fn.results = #[.cell t ty]) (tmps : Array Value) (P : Program) (w : World) (a : Addr) (ht : tmps.getD t undef = .pointer (some a)) (x : Value) (hl : (loadVar ty a).run P w = .ok x w) :
    (results fn tmps).run P w = .ok x w := by
  simp only [Array.getD_eq_getD_getElem?] at ht
  simp [results, h, ht, asAddr, Sem.run_bind, hl]
theorem results_cell1 {fn : Func} {t u : Tmp} {ty : TypeId} (h : fn.results = #[.cell t ty, .tmp u]) (tmps : Array Value) (P : Program) (w : World) (a : Addr) (ht : tmps.getD t undef = .pointer (some a)) (x : Value) (hl : (loadVar ty a).run P w = .ok x w) :
    (results fn tmps).run P w = .ok (.tuple #[x, tmps.getD u undef]) w := by
  simp only [Array.getD_eq_getD_getElem?] at ht
  simp [results, h, ht, asAddr, Sem.run_bind, hl]
theorem load_ownF {base r : Nat} {w : World} {cs : List Value} (h : Own base 36 1 w (some ⟨r, 0, none⟩) 4 4 cs) : (loadVar 36 ⟨r, 0, none⟩).run Try.prog w = .ok (.agg cs.toArray) w := by
  have hl : cs.length = 4 := by simpa using h.1
  exact run_loadVar_mid w r 0 36 cs _ (fun j v hj => by
    have hlt : j < 4 := by have := (List.getElem?_eq_some_iff.1 hj).1; omega
    have := World.ownsRow.cellAt h j (by omega)
    rw [Nat.zero_add, this, hj]) Try.underlying36 rfl (by rw [hl]; kernel_rfl)
theorem stored4 {base r : Nat} {t : TypeId} {w : World} {cs : List Value} (h : Own base t 1 w (some ⟨r, 0, none⟩) 4 4 cs) (v0 v1 v2 v3 : Value) :
    Own base t 1 ((((w.setCell ⟨r, 0, none⟩ v0).setCell ⟨r, 1, none⟩ v1).setCell ⟨r, 2, none⟩ v2).setCell ⟨r, 3, none⟩ v3) (some ⟨r, 0, none⟩) 4 4 [v0, v1, v2, v3] ∧
    w.grownBy ((((w.setCell ⟨r, 0, none⟩ v0).setCell ⟨r, 1, none⟩ v1).setCell ⟨r, 2, none⟩ v2).setCell ⟨r, 3, none⟩ v3) (some r) := by
  have h0 := World.ownsRow.stored h 0 v0
  have h1 := h0.1.stored 1 v1
  have h2 := h1.1.stored 2 v2
  have h3 := h2.1.stored 3 v3
  refine ⟨?_, grownBy_trans h0.2 (grownBy_trans h1.2 (grownBy_trans h2.2 h3.2))⟩
  have hl : cs.length = 4 := by simpa using h.1
  obtain ⟨c0, c1, c2, c3, rfl⟩ : ∃ c0 c1 c2 c3, cs = [c0, c1, c2, c3] := by
    match cs, hl with
    | [c0, c1, c2, c3], _ => exact ⟨_, _, _, _, rfl⟩
  exact h3.1
theorem Own.past {base size n c g : Nat} {e : TypeId} {w w' : World} {A : Option Addr} {cs : List Value} (h : Own base e size w A n c cs) (hg : w.grownBy w' (some g)) (hlt : g < base) : Own base e size w' A n c cs := by
  refine World.ownsRow.kept h hg ?_
  cases A with
  | none => exact .inl rfl
  | some a =>
    have := (World.ownsRow.lt h a.block rfl).1
    exact .inr (by simp [Value.ownBlock]; omega)
def frZ : List Value := [.int .i64 0, .slice none 0 0, .int .i64 0, .bool false]

set_option maxRecDepth 100000 in
set_option maxHeartbeats 2000000 in
theorem own_any (Q : Int) (A : Option Addr) (m d : Nat) (At : Int) (H : Bool) (ts : List Tn) (w : World) (hs : Sl w 3 A m d (flatT ts)) (hm : m ≤ 1000000) :
    Calls Try.prog 59 #[frV Q A m d At H] w fun e w' => ∃ A' c', e = .returned (frV Q A' m c' At H) ∧ Own w.heap.size 51 3 w' A' m c' (flatT ts) ∧ Below w.heap.size w w' := by
  obtain ⟨w1, hw1⟩ : ∃ w1, w1 = w.alloc (.cells #[.int .i64 Q, .slice A m d, .int .i64 At, .bool H] 36) := ⟨_, rfl⟩
  have hb0 := below_alloc1 w (.cells #[.int .i64 Q, .slice A m d, .int .i64 At, .bool H] 36)
  have o0 : Own w.heap.size 36 1 (w.alloc (.cells #[.int .i64 Q, .slice A m d, .int .i64 At, .bool H] 36)) (some ⟨w.heap.size, 0, none⟩) 4 4 (frC Q A m d At H) := new_own w (frC Q A m d At H) 36 4 rfl (by unfold maxLen; omega)
  have n1 : (w.alloc (.cells #[.int .i64 Q, .slice A m d, .int .i64 At, .bool H] 36)).heap.size = w.heap.size + 1 := by simp
  rw [← hw1] at hb0 o0 n1
  have hb1 := below_alloc1 w1 (.cells frZ.toArray 36)
  have o1 : Own w1.heap.size 36 1 (w1.alloc (.cells frZ.toArray 36)) (some ⟨w1.heap.size, 0, none⟩) 4 4 frZ := new_own w1 frZ 36 4 rfl (by unfold maxLen; omega)
  have o1 := o1.lower (base' := w.heap.size) hb0.size
  have o0 := o0.below hb1
  have hs1 := (hs.below hb0).below hb1
  have hbA := hb0.trans (hb1.mono hb0.size)
  rw [n1] at o1
  simp only [frZ] at o0 o1 hs1 hbA
  subst hw1
  clear hb0 hb1 n1
  unfold frV
  go_enter Try.func59, Try.ntmps59
  go_wp2_with fail
  refine (cloneT_any A m d ts _ hs1 hm).mono ?_; rintro x w3 ⟨A', c', rfl, oT, hb3⟩
  have hw2 : ((w.alloc (.cells #[.int .i64 Q, .slice A m d, .int .i64 At, .bool H] 36)).alloc (.cells #[.int .i64 0, .slice none 0 0, .int .i64 0, .bool false] 36)).heap.size = w.heap.size + 2 := by simp
  generalize (w.alloc (.cells #[.int .i64 Q, .slice A m d, .int .i64 At, .bool H] 36)).alloc (.cells #[.int .i64 0, .slice none 0 0, .int .i64 0, .bool false] 36) = w2 at *
  have o0 := o0.below hb3
  have o1 := o1.below hb3
  have hbB := hbA.trans (hb3.mono hbA.size)
  have hsz := o0.block_lt (by omega)
  have oT := oT.lower (base' := w.heap.size + 2) (by omega)
  clear hs1 hb3 hbA hw2
  have y0 := World.ownsRow.cellAt o0 0 (by omega)
  have y1 := World.ownsRow.cellAt o0 1 (by omega)
  have y2 := World.ownsRow.cellAt o0 2 (by omega)
  have y3 := World.ownsRow.cellAt o0 3 (by omega)
  have x1 := World.ownsRow.frozenAt o0 1
  simp only [frC, List.getElem?_cons_succ, List.getElem?_cons_zero] at y0 y1 y2 y3
  have st := World.ownsRow.stored o0 1 (.slice A' m c')
  have o1 := Own.apart o1 st.2 (by omega)
  have oT := oT.past st.2 (by omega)
  have hbB := hbB.grown st.2 hbB.size (fun k hk => by cases hk; exact Nat.le_refl _)
  have o0 := st.1
  clear st
  go_upto_region 2 with fail
  generalize w3.setCell ⟨w.heap.size, 1, none⟩ (.slice A' m c') = w4 at *
  clear y0 y1 y2 y3 x1
  have y0 := World.ownsRow.cellAt o0 0 (by omega)
  have y1 := World.ownsRow.cellAt o0 1 (by omega)
  have y2 := World.ownsRow.cellAt o0 2 (by omega)
  have y3 := World.ownsRow.cellAt o0 3 (by omega)
  simp only [frC, List.set_cons_zero, List.set_cons_succ, List.getElem?_cons_succ, List.getElem?_cons_zero] at y0 y1 y2 y3
  have z0 := World.ownsRow.cellAt o1 0 (by omega)
  have z1 := World.ownsRow.cellAt o1 1 (by omega)
  have z2 := World.ownsRow.cellAt o1 2 (by omega)
  have z3 := World.ownsRow.cellAt o1 3 (by omega)
  simp only [List.getElem?_cons_succ, List.getElem?_cons_zero] at z0 z1 z2 z3
  have x0 := World.ownsRow.frozenAt o1 0
  have x1 := World.ownsRow.frozenAt o1 1
  have x2 := World.ownsRow.frozenAt o1 2
  have x3 := World.ownsRow.frozenAt o1 3
  have st := stored4 o1 (.int .i64 Q) (.slice A' m c') (.int .i64 At) (.bool H)
  go_wp2_with fail
  refine bodyPost_ret (results_cell0 rfl _ _ _ ⟨w.heap.size + 1, 0, none⟩ rfl _ (load_ownF st.1)) rfl ?_
  exact ⟨A', c', rfl, (oT.past st.2 (by omega)).lower (by omega), hbB.grown st.2 hbB.size (fun k hk => by cases hk; omega)⟩
end Go.Proofs.Ytphjmbhlokkdiaa
