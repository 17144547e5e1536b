import Derived.Test.YtemegkapmgcffaaGreatMWa
import Derived.Test.YtemegkapmgcffaaGreatMWb
import Derived.Maps.AppendAt
import Derived.Sort.Walk0
import Derived.Lib.MinMax
import Derived.BigQuiet
import Derived.StillTailTactics
/- A relation for drawn regions that append in place to rows made there: the first q cells of each block stay. -/
namespace Go.Proofs.YtemegkapmgcffaaGreat
open Go.RowKit
set_option linter.unusedSimpArgs false
set_option linter.unusedVariables false

structure R3 (q B : Nat) (w w' : World) : Prop where
  os : w'.os = w.os
  tape : w'.tape = w.tape
  output : w'.output = w.output
  size : w.heap.size ≤ w'.heap.size
  low : ∀ b, b < w.heap.size → b < B → w'.heap[b]? = w.heap[b]?
  row : ∀ (b : Nat) (cs : Array Value) (t : TypeId), w.heap[b]? = some (Obj.cells cs t (0, 0)) → ∃ cs' : Array Value, w'.heap[b]? = some (Obj.cells cs' t (0, 0)) ∧ cs'.size = cs.size ∧ ∀ j, j < q → cs'[j]? = cs[j]?
theorem R3.below {q B : Nat} {w w' : World} (h : Below w.heap.size w w') : R3 q B w w' :=
  ⟨h.os, h.tape, h.output, h.size, fun b hb _ => h.block b hb, fun b cs t hc => ⟨cs, by rw [h.block b (Array.getElem?_eq_some_iff.1 hc).1]; exact hc, rfl, fun _ _ => rfl⟩⟩
theorem R3.trans {q B : Nat} {w w1 w2 : World} (h : R3 q B w w1) (k : R3 q B w1 w2) : R3 q B w w2 :=
  ⟨k.os.trans h.os, k.tape.trans h.tape, k.output.trans h.output, Nat.le_trans h.size k.size, fun b hb hB => (k.low b (Nat.lt_of_lt_of_le hb h.size) hB).trans (h.low b hb hB), fun b cs t hc => by
    obtain ⟨c1, h1, h2, h3⟩ := h.row b cs t hc
    obtain ⟨c2, k1, k2, k3⟩ := k.row b c1 t h1
    exact ⟨c2, k1, k2.trans h2, fun j hj => (k3 j hj).trans (h3 j hj)⟩⟩
theorem R3.bel {q B : Nat} {w w' : World} (h : R3 q B w w') (hB : w.heap.size ≤ B) : Below w.heap.size w w' :=
  ⟨h.os, h.tape, h.output, h.size, fun b hb => h.low b hb (Nat.lt_of_lt_of_le hb hB)⟩
theorem R3.own {q B base size n c : Nat} {e : TypeId} {w w' : World} {A : Option Addr} {cs : List Value} (h : R3 q B w w') (o : Own base e size w A n c cs) (hq : n * size ≤ q) : Own base e size w' A n c cs := by
  obtain ⟨o1, o2⟩ := o
  refine ⟨o1, ?_⟩
  rcases o2 with o2 | ⟨g, cap, cur, hv, hb, hg, hle, hm, hs, ht⟩
  · exact .inl o2
  · obtain ⟨c1, h1, h2, h3⟩ := h.row g cur e hg
    refine .inr ⟨g, cap, c1, hv, hb, h1, hle, hm, by rw [h2, hs], ?_⟩
    rw [← ht]
    apply List.ext_getElem?
    intro j
    rw [List.getElem?_take, List.getElem?_take]
    split
    · simpa using h3 j (by omega)
    · rfl
theorem R3.setRow {q B g n size : Nat} {e : TypeId} {w : World} {cur : Array Value} {news : List Value} (hg : w.heap[g]? = some (.cells cur e (0, 0))) (hB : B ≤ g) (hq : q ≤ n * size) (hfit : n * size + news.length ≤ cur.size) :
    R3 q B w (w.setRow g (splice cur.toList (n * size) news).toArray) :=
  ⟨rfl, rfl, rfl, by simp [World.setRow], fun b hb hlt => setRow_other w g b _ (by omega), fun b cs t hc => by
    by_cases hbg : b = g
    · subst hbg
      rw [hg] at hc
      cases hc
      refine ⟨_, setRow_heap w b cur _ e (0, 0) hg, by rw [List.size_toArray, length_splice _ _ _ (by simpa using hfit)]; simp, fun j hj => ?_⟩
      unfold splice
      rw [List.getElem?_toArray, List.getElem?_append_left (by rw [List.length_take]; simp only [Array.length_toList]; omega), List.getElem?_take, if_pos (by omega)]
      simp
    · exact ⟨cs, by rw [setRow_other w g b _ hbg]; exact hc, rfl, fun _ _ => rfl⟩⟩

/-- append where there is room -/
theorem run_app_room {P : Program} (w : World) (t ty e : TypeId) (i : TypeInfo) (size : Nat) (ht : P.underlying t = some (.slice e)) (hi : P.info? e = some i) (hs : i.size = size) (g n c : Nat) (cur : Array Value) (te : TypeId) (hg : w.heap[g]? = some (.cells cur te (0, 0)))
    (B : Addr) (m c' : Nat) (news : List Value) (hl : news.length = m * size) (hB : ∀ j u, news[j]? = some u → w.cell? (B.add j) = some u) (h1 : ∀ u ∈ news, u.oneCell' = true) (hroom : n + m ≤ c) (hfit : cur.size = c * size) :
    (Builtin.append_ #[t, t] ty #[.slice (some ⟨g, 0, none⟩) n c, .slice (some B) m c']).run P w = .ok (.slice (some ⟨g, 0, none⟩) (n + m) c) (w.setRow g (splice cur.toList (n * size) news).toArray) := by
  subst hs
  have hld := run_loadCells_list (P := P) w B news hB
  have hle : n * i.size + m * i.size ≤ c * i.size := by rw [← Nat.add_mul]; exact Nat.mul_le_mul_right _ hroom
  have hst := run_storeCells_at P g (n * i.size) te news 0 cur w hg (by simp only [Nat.add_zero]; omega) h1
  have ha : (⟨g, 0, none⟩ : Addr).add (n * i.size) = ⟨g, n * i.size, none⟩ := by unfold Addr.add; split <;> simp_all
  simp only [Nat.add_zero] at hst
  simp [Builtin.append_, run_underlying ht, sizeOf, typeInfo, hi, Builtin.lenOf, Builtin.firstCells, ← hl, hld, ha, hst, hroom, splice]
theorem stepE_app {P : Program} {ops : Array Oper} {R : World → World → Prop} {J : Value → World → Prop} {o : Oper} {a : Act} {w w' : World} {v u v' : Value} (hgd : o.guard = none) (s x : Operand) (t : TypeId)
    (ho : o.op = .call { callee := .builtin .append, args := #[s, x], argTypes := #[t, t] }) (hs : a.eval s = v) (hx : a.eval x = u) (hr : (Builtin.append_ #[t, t] o.type #[v, u]).run P w = .ok v' w') (hR : R w w') (hJ : J v' w') : StepE P ops R J o a w := by
  unfold StepE
  rw [if_pos (by simp [Region.wanted, hgd])]
  simp only [execOp, ho, resolve, invoke, builtin, Sem.run_bind, Sem.run_pure, Result.andThen_ok, List.map_toArray, List.map_cons, List.map_nil, hs, hx, hr, upE]
  exact ⟨hR, hJ⟩

def isZ (B : Nat) (e : TypeId) (size : Nat) : Value → World → Prop := fun v w => ∃ b, v = .slice (some ⟨b, 0, none⟩) 0 0 ∧ Own B e size w (some ⟨b, 0, none⟩) 0 0 []
def isP (B : Nat) (e : TypeId) (size p : Nat) (F : List Value) : Value → World → Prop := fun v w => ∃ A c, v = .slice A p c ∧ Own B e size w A p c F ∧ (p = 0 → c = 0)
def isX (B : Nat) (e : TypeId) (size : Nat) (X : List Value) : Value → World → Prop := fun v w => ∃ b, v = .slice (some ⟨b, 0, none⟩) 1 1 ∧ Own B e size w (some ⟨b, 0, none⟩) 1 1 X
def isJ (B : Nat) (e : TypeId) (size n : Nat) (F : List Value) : Value → World → Prop := fun v w => ∃ A c, v = .slice A n c ∧ Own B e size w A n c F
end Go.Proofs.YtemegkapmgcffaaGreat

/- slices.Insert of one element, at slices that the call owns. -/
namespace Go.Proofs.YtemegkapmgcffaaGreat
open Go.RowKit
set_option linter.unusedSimpArgs false
set_option linter.unusedVariables false

/-- where a row lies now: where it lay, or in new memory -/
def LiesI (w : World) (A A' : Option Addr) : Prop := ∀ a, A' = some a → (∃ b, A = some b ∧ b.block = a.block) ∨ w.heap.size ≤ a.block
theorem lies_own {w : World} {A A' : Option Addr} {n c n' c' : Nat} (h : (Value.slice A' n' c').ownBlock = (Value.slice A n c).ownBlock ∨ (Value.slice A' n' c').ownBlock = some w.heap.size) : LiesI w A A' := by
  intro a ha
  subst ha
  rcases h with h | h
  · cases A with
    | none => simp [Value.ownBlock] at h
    | some b => simp [Value.ownBlock] at h; exact .inl ⟨b, rfl, h.symm⟩
  · simp [Value.ownBlock] at h; exact .inr (by omega)
theorem infoIF : (Tryz.prog.info? 79).map (fun i => (i.zero, i.size, i.bytes)) = some (some (.agg #[.string { data := #[] }, .slice none 0 0, .int .i64 0]), 3, 48) := by kernel_rfl
theorem ownsRow_sliceI {w : World} {base size n : Nat} {e : TypeId} {v : Value} {cs : List Value} (h : w.ownsRow base e size v n cs) : ∃ A c, v = .slice A n c ∧ Own base e size w A n c cs := by
  have h0 := h
  rcases h.2 with ⟨rfl, hn⟩ | ⟨g, cap, cur, rfl, _⟩
  · subst hn
    exact ⟨none, 0, rfl, h0⟩
  · exact ⟨_, _, rfl, h0⟩
theorem own_rowI {w : World} {base size n c : Nat} {e : TypeId} {A : Option Addr} {cs : List Value} (h : Own base e size w A n c cs) : (Value.slice A n c).ownBlock = rowOf base A := by
  cases A with
  | none => rfl
  | some a =>
    have := (World.ownsRow.lt h a.block rfl).1
    simp [Value.ownBlock, rowOf, this]
set_option maxRecDepth 100000 in
set_option maxHeartbeats 2000000 in
theorem insF_end (base : Nat) (A : Option Addr) (n c vb : Nat) (F X : List Value) (w : World) (ho : Own base 79 3 w A n c F) (hn : n ≤ 1000000) (hx : w.heap[vb]? = some (.cells X.toArray 79 (0, 0))) (hxl : X.length = 3) (h1 : ∀ u ∈ X, u.oneCell' = true) (hb : base ≤ w.heap.size) :
    Calls Tryz.prog 38 #[.slice A n c, .int .i64 n, .slice (some ⟨vb, 0, none⟩) 1 1] w fun e w' => ∃ A' c', e = .returned (.slice A' (n + 1) c') ∧ Own base 79 3 w' A' (n + 1) c' (F ++ X) ∧ w.grownBy w' (rowOf base A) ∧ LiesI w A A' := by
  have hle := ho.sl.le
  have hcm : c ≤ 9223372036854775807 := by
    rcases ho.2 with ⟨h, _⟩ | ⟨g, cap, cur, h, _, _, _, hm, _⟩
    · simp at h; omega
    · simp at h; unfold maxLen at hm; omega
  have hsx : Sl w 3 (some ⟨vb, 0, none⟩) 1 1 X := sl_of_block hx hxl
  obtain ⟨i0, hi, hz0, hz1, hz2⟩ := info_parts infoIF
  go_enter Tryz.func38, Tryz.ntmps38
  go_wp2_with (at_builtin; refine wpList_append_own_at _ rfl (.tmp 23) (.tmp 24) 62 rfl base 79 i0 (.agg #[.string { data := #[] }, .slice none 0 0, .int .i64 0]) 3 48 Tryz.underlying62 hi hz0 hz1 hz2 rfl (by decide) _ n F rfl ho ⟨vb, 0, none⟩ 1 1 X rfl hxl (fun j u hj => by obtain ⟨ad', e1, e2⟩ := hsx.cells j u hj; cases e1; exact e2) h1 (by unfold maxLen; omega) (by omega) hb ?_; intro v' w2 hown2 hgrow2 hnil2 hloc2)
  all_goals
    go_ret
    obtain ⟨A', c', rfl, h2⟩ := ownsRow_sliceI hown2
    exact ⟨A', c', rfl, h2, by rw [← own_rowI ho]; exact hgrow2, lies_own hloc2⟩

set_option maxRecDepth 100000 in
set_option maxHeartbeats 2000000 in
theorem insF_shift (base g n c i vb : Nat) (F X : List Value) (w : World) (ho : Own base 79 3 w (some ⟨g, 0, none⟩) n c F) (hn : n ≤ 1000000) (hi : i < n) (hc : n < c) (hvg : vb ≠ g) (hx : w.heap[vb]? = some (.cells X.toArray 79 (0, 0))) (hxl : X.length = 3) (h1 : ∀ u ∈ X, u.oneCell' = true) (hF1 : ∀ u ∈ F, u.oneCell' = true) :
    Calls Tryz.prog 38 #[.slice (some ⟨g, 0, none⟩) n c, .int .i64 i, .slice (some ⟨vb, 0, none⟩) 1 1] w fun e w' => ∃ A' c', e = .returned (.slice A' (n + 1) c') ∧ Own base 79 3 w' A' (n + 1) c' (F.take (i * 3) ++ (X ++ F.drop (i * 3))) ∧ w.grownBy w' (some g) ∧ LiesI w (some ⟨g, 0, none⟩) A' := by
  obtain ⟨hFl, ho2⟩ := ho
  rcases ho2 with ⟨h, _⟩ | ⟨g', cap, cur, h, hbg, hg, hle, hcm, hcs, htk⟩
  · simp at h
  simp at h
  obtain ⟨rfl, rfl⟩ := h
  have hcm2 : c ≤ 9223372036854775807 := by unfold maxLen at hcm; exact hcm
  have hsx : Sl w 3 (some ⟨vb, 0, none⟩) 1 1 X := sl_of_block hx hxl
  have hsz : (Tryz.prog.info? 79).map (·.size) = some 3 := by
    obtain ⟨i0, h0, _, h2, _⟩ := info_parts infoIF
    rw [h0]; simp [h2]
  obtain ⟨D, hD⟩ : ∃ D, D = F.drop (i * 3) := ⟨_, rfl⟩
  have hDl : D.length = (n - i) * 3 := by rw [hD, List.length_drop, hFl, Nat.sub_mul]
  have hcurF : cur.toList = F.take (i * 3) ++ (D ++ cur.toList.drop (n * 3)) := by
    rw [← List.append_assoc, hD, List.take_append_drop, ← htk, List.take_append_drop]
  have hw1 : IntKind.i64.wrap ((i : Int) + 1) = (i : Int) + 1 := by rw [IntKind.wrap_i64]; omega
  have hb1 : (0 : Int) ≤ (i : Int) + 1 := by omega
  have hin : i ≤ n := by omega
  have htn : ((i : Int) + 1).toNat = i + 1 := by omega
  have hb2 : ¬ (c = i + 1) := by omega
  have hb3 : (i : Int) ≤ (n : Int) + 1 := by omega
  have hb4 : ¬ (c = i) := by omega
  have hmin : Nat.min (n + 1 - i) (n - i) = n - i := by simp only [Nat.min_def]; split <;> omega
  have hfit1 : (i + 1) * 3 + D.length ≤ cur.size := by rw [hDl, hcs]; omega
  have hcp1 : ∀ ty dc sc, (Builtin.copy_ #[62, 62] ty #[.slice (some ⟨g, (i + 1) * 3, none⟩) (n - i) dc, .slice (some ⟨g, i * 3, none⟩) (n + 1 - i) sc]).run Tryz.prog w.drew = .ok (goInt (Nat.min (n + 1 - i) (n - i))) (w.drew.setRow g (splice cur.toList ((i + 1) * 3) D).toArray) := fun ty dc sc =>
    run_copyN w.drew _ _ ty 79 3 Tryz.underlying62 hsz _ _ _ _ _ _ g ((i + 1) * 3) cur 79 hg D (by rw [hDl, hmin])
      (fun _ => ⟨rfl, _, rfl, fun j v hj => by
        rw [Addr.add_lit]
        have : F[i * 3 + j]? = some v := by rw [hD, List.getElem?_drop] at hj; exact hj
        rw [← htk, List.getElem?_take] at this
        split at this
        · show w.cell? _ = _
          simp only [World.cell?, hg]
          simpa using this
        · cases this⟩) hfit1 (fun u hu => hF1 u (by rw [hD] at hu; exact List.mem_of_mem_drop hu))
  have hz9 : ∀ w, (Go.sizeOf 79).run Tryz.prog w = .ok 3 w := fun w => by kernel_rfl
  have hcpos : cur.size ≠ 0 := by omega
  have hov : ∀ off lb cb, (callFunc 81 #[.slice (some ⟨vb, 0, none⟩) 1 1, .slice (some ⟨g, off, none⟩) lb cb]).run Tryz.prog w = .ok (.value (.bool false)) w := fun off lb cb => by
    rw [run_callFunc_extern Tryz.func81 (by kernel_rfl) (by kernel_rfl) (by kernel_rfl) (e := Extern.SlicesOverlaps.overlaps #[62, 62] #[4]) (by kernel_rfl),
      Lib.run_overlaps_apart w 62 4 79 Tryz.underlying62 3 hz9 ⟨vb, 0, none⟩ ⟨g, off, none⟩ 1 1 lb cb hvg 79 79 X.toArray.size cur.size (by simp [World.shape?, hx]) (by simp [World.shape?, hg]) hcpos (by simp [World.frozen?, hx]) (by simp [World.frozen?, hx])]
    rfl
  have hL1l : (splice cur.toList ((i + 1) * 3) D).length = cur.size := by rw [length_splice _ _ _ (by simpa using hfit1)]; simp
  have hmin2 : Nat.min 1 (n + 1 - i) = 1 := by simp only [Nat.min_def]; split <;> omega
  have hg1 : (w.drew.setRow g (splice cur.toList ((i + 1) * 3) D).toArray).heap[g]? = some (.cells (splice cur.toList ((i + 1) * 3) D).toArray 79 (0, 0)) := setRow_heap w.drew g cur _ 79 (0, 0) hg
  have hfit2 : i * 3 + X.length ≤ (splice cur.toList ((i + 1) * 3) D).toArray.size := by rw [List.size_toArray, hL1l, hxl, hcs]; omega
  have hcp2 : ∀ ty dc sc, (Builtin.copy_ #[62, 62] ty #[.slice (some ⟨g, i * 3, none⟩) (n + 1 - i) dc, .slice (some ⟨vb, 0, none⟩) 1 sc]).run Tryz.prog (w.drew.setRow g (splice cur.toList ((i + 1) * 3) D).toArray) = .ok (goInt (Nat.min 1 (n + 1 - i))) ((w.drew.setRow g (splice cur.toList ((i + 1) * 3) D).toArray).setRow g (splice (splice cur.toList ((i + 1) * 3) D).toArray.toList (i * 3) X).toArray) := fun ty dc sc =>
    run_copyN (w.drew.setRow g (splice cur.toList ((i + 1) * 3) D).toArray) _ _ ty 79 3 Tryz.underlying62 hsz _ _ _ _ _ _ g (i * 3) _ 79 hg1 X (by rw [hmin2, hxl])
      (fun _ => ⟨rfl, _, rfl, fun j v hj => by
        obtain ⟨ad', e1, e2⟩ := hsx.cells j v hj
        cases e1
        rw [cell_setRow_other _ _ _ _ (by unfold Addr.add; split <;> exact hvg)]
        exact e2⟩) hfit2 h1
  have HcurF := Lib.hid hcurF
  have Hcs := Lib.hid hcs
  have HD := Lib.hid hD
  have HDl := Lib.hid hDl
  have HFl := Lib.hid hFl
  have Hg := Lib.hid hg
  have Hx := Lib.hid hx
  have Hxl := Lib.hid hxl
  have Hfit1 := Lib.hid hfit1
  have Hsx := Lib.hid hsx
  have Hmin := Lib.hid hmin
  clear hL1l hmin2 hg1 hfit2 hcurF hcs hD hDl hFl hg hx hxl htk hfit1 hsx hmin hcpos hz9 hsz
  go_enter Tryz.func38, Tryz.ntmps38
  go_wp2_with (simp only [hov])
  go_region_law (refine step_copyR rfl _ _ 62 62 rfl _ _ (by simp [Act.eval, Act.put]) (by simp [Act.eval, Act.put]) (hcp1 _ _ _) ?_)
  go_wp2_with (at_builtin; refine wpList_copyR _ rfl _ _ 62 62 rfl _ _ rfl rfl (hcp2 _ _ _) ?_)
  go_ret
  have hcurF := HcurF.out
  have hDl := HDl.out
  have hFl := HFl.out
  have hcs := Hcs.out
  have hxl := Hxl.out
  have hfit1 := Hfit1.out
  have hg1 : (w.drew.setRow g (splice cur.toList ((i + 1) * 3) D).toArray).heap[g]? = some (.cells (splice cur.toList ((i + 1) * 3) D).toArray 79 (0, 0)) := setRow_heap w.drew g cur _ 79 (0, 0) Hg.out
  have hL1l : (splice cur.toList ((i + 1) * 3) D).length = cur.size := by rw [length_splice _ _ _ (by simpa using hfit1)]; simp
  have htl : (F.take (i * 3)).length = i * 3 := by rw [List.length_take, hFl]; omega
  have hRl : (cur.toList.drop (n * 3)).length = cur.size - n * 3 := by simp
  have hsh := splice_shift (F.take (i * 3)) D (cur.toList.drop (n * 3)) X (by omega)
  rw [← hcurF, htl, hxl, hDl, show i * 3 + 3 = (i + 1) * 3 by omega, show (i + 1) * 3 + (n - i) * 3 = (n + 1) * 3 by omega] at hsh
  refine ⟨_, _, rfl, ⟨by rw [← HD.out, List.length_append, List.length_append, htl, hxl, hDl]; omega, .inr ⟨g, c, _, rfl, hbg, setRow_heap _ g _ _ 79 (0, 0) hg1, by omega, hcm, ?_, ?_⟩⟩, ?_, fun a ha => by cases ha; exact .inl ⟨_, rfl, rfl⟩⟩
  · rw [List.size_toArray, length_splice _ _ _ (by simp only [List.length_append, hL1l, hxl]; omega)]
    simp only [hL1l, hcs]
  · rw [← HD.out]
    simpa using hsh
  · refine ⟨rfl, rfl, rfl, by simp [World.setRow], fun k hk hne => ?_⟩
    have hkg : k ≠ g := fun e => hne (by rw [e])
    rw [setRow_other _ g k _ hkg, setRow_other _ g k _ hkg]
    rfl

set_option maxRecDepth 100000 in
set_option maxHeartbeats 2000000 in
theorem insF_grow (base g n i vb : Nat) (F X : List Value) (w : World) (ho : Own base 79 3 w (some ⟨g, 0, none⟩) n n F) (hn : n ≤ 1000000) (hi : i < n) (hx : w.heap[vb]? = some (.cells X.toArray 79 (0, 0))) (hxl : X.length = 3) (h1 : ∀ u ∈ X, u.oneCell' = true) (hF1 : ∀ u ∈ F, u.oneCell' = true) (hb : base ≤ w.heap.size) :
    Calls Tryz.prog 38 #[.slice (some ⟨g, 0, none⟩) n n, .int .i64 i, .slice (some ⟨vb, 0, none⟩) 1 1] w fun e w' => ∃ A' c', e = .returned (.slice A' (n + 1) c') ∧ Own base 79 3 w' A' (n + 1) c' (F.take (i * 3) ++ (X ++ F.drop (i * 3))) ∧ w.grownBy w' (some g) ∧ LiesI w (some ⟨g, 0, none⟩) A' := by
  have hFl := ho.1
  have hsF := ho.sl
  have hgl := (World.ownsRow.lt ho g rfl).2
  have hcm : n ≤ maxLen := by unfold maxLen; omega
  have hsx : Sl w 3 (some ⟨vb, 0, none⟩) 1 1 X := sl_of_block hx hxl
  have hvl : vb < w.heap.size := (Array.getElem?_eq_some_iff.1 hx).1
  have hsz : (Tryz.prog.info? 79).map (·.size) = some 3 := by
    obtain ⟨i0, h0, _, h2, _⟩ := info_parts infoIF
    rw [h0]; simp [h2]
  obtain ⟨D, hD⟩ : ∃ D, D = F.drop (i * 3) := ⟨_, rfl⟩
  have hDl : D.length = (n - i) * 3 := by rw [hD, List.length_drop, hFl, Nat.sub_mul]
  have htl : (F.take (i * 3)).length = i * 3 := by rw [List.length_take, hFl]; omega
  obtain ⟨k, hk⟩ : ∃ k, k = n + 1 - i := ⟨_, rfl⟩
  obtain ⟨m, C, hgrow, hm1, hm2, hCl, hCt⟩ : ∃ (m : Nat) (C : Array Value), (∀ ty, (Builtin.append_ #[62, 3] ty #[.slice (some ⟨g, 0, none⟩) i n, .int .i64 (k : Int)]).run Tryz.prog w = .ok (.slice (some ⟨w.heap.size, 0, none⟩) (n + 1) m) (w.drew.alloc (.cells C 79))) ∧ n + 1 ≤ m ∧ m ≤ maxLen ∧ C.size = m * 3 ∧ C.toList.take (i * 3) = F.take (i * 3) := by
    obtain ⟨i0, hi0, hz, hs2, hby⟩ := info_parts infoIF
    have hold : (Builtin.firstCells i0.size i (.slice (some ⟨g, 0, none⟩) i n)).run Tryz.prog w.drew = .ok (F.take (i * 3)).toArray w.drew := by
      rw [hs2]
      exact run_firstCells_some (P := Tryz.prog) w.drew 3 i _ i n (F.take (i * 3)) (by rw [htl]) (fun j u hj => by
        rw [List.getElem?_take] at hj
        split at hj
        · obtain ⟨ad, e, h⟩ := hsF.cells j u hj; cases e; exact h
        · cases hj)
    refine ⟨grownCap w (i + k) n 79, (F.take (i * 3)).toArray ++ Builtin.zeroCells (Value.agg #[.string { data := #[] }, .slice none 0 0, .int .i64 0]).cells k ++ Builtin.zeroCells (Value.agg #[.string { data := #[] }, .slice none 0 0, .int .i64 0]).cells (grownCap w (i + k) n 79 - (i + k)), fun ty => ?_, ?_, ?_, ?_, ?_⟩
    · have := Lib.run_append_grow_zeros (P := Tryz.prog) w 62 3 ty 79 i0 (.agg #[.string { data := #[] }, .slice none 0 0, .int .i64 0]) .i64 .i64 Tryz.underlying62 Tryz.underlying3 hi0 hz (some ⟨g, 0, none⟩) i n (F.take (i * 3)) hold k (by omega) (by omega) (by omega) (by omega) (by rw [hby]; omega)
        (Nat.le_trans (growslice_fits (by omega) (by rw [hby]; omega)) (by omega))
      rw [show n + 1 = i + k by omega]
      exact this
    · have := grownCap_ge w (i + k) n 79; omega
    · exact grownCap_le_maxLen w _ _ _ (by unfold maxLen; omega)
    · have := grownCap_ge w (i + k) n 79
      have hz2 : (Value.agg #[.string { data := #[] }, .slice none 0 0, .int .i64 0]).cells.size = 3 := rfl
      simp only [Array.size_append, size_zeroCells, List.size_toArray, htl, hz2]
      omega
    · simp only [Array.toList_append, List.append_assoc]
      rw [List.take_append_of_le_length (by simp; omega)]
      show (F.take (i * 3)).take (i * 3) = _
      rw [List.take_take, Nat.min_self]
  obtain ⟨r, hr⟩ : ∃ r, r = w.heap.size := ⟨_, rfl⟩
  rw [← hr] at hgrow hgl hvl
  obtain ⟨W2, hW2⟩ : ∃ W2, W2 = w.drew.alloc (.cells C 79) := ⟨_, rfl⟩
  rw [← hW2] at hgrow
  have hb2 : Below w.heap.size w W2 := by rw [hW2]; exact (Below.refl _ _).drew.alloc (by simp) _
  have hg2 : W2.heap[r]? = some (.cells C 79 (0, 0)) := by rw [hW2, hr]; exact Array.getElem?_push_size
  have hw1 : IntKind.i64.wrap ((i : Int) + 1) = (i : Int) + 1 := by rw [IntKind.wrap_i64]; omega
  have hw2 : IntKind.i64.wrap ((n : Int) + 1 - (i : Int)) = (k : Int) := by rw [IntKind.wrap_i64]; omega
  have hw3 : (n : Int) + 1 - (i : Int) = (k : Int) := by omega
  have hnn : ¬ ((n : Int) + 1 ≤ (n : Int)) := by omega
  have hin : i ≤ n := by omega
  have htn : ((i : Int) + 1).toNat = i + 1 := by omega
  have hq2 : ¬ (m = i + 1) := by omega
  have hq4 : ¬ (m = i) := by omega
  have hq5 : ¬ (n = i) := by omega
  have hb1 : (0 : Int) ≤ (i : Int) + 1 := by omega
  have hb3 : (i : Int) ≤ (n : Int) + 1 := by omega
  have hmin1 : Nat.min 1 (n + 1 - i) = 1 := by simp only [Nat.min_def]; split <;> omega
  have hmin2 : Nat.min (n - i) (n - i) = n - i := by simp
  have hcp1 : ∀ ty dc sc, (Builtin.copy_ #[62, 62] ty #[.slice (some ⟨r, i * 3, none⟩) (n + 1 - i) dc, .slice (some ⟨vb, 0, none⟩) 1 sc]).run Tryz.prog W2 = .ok (goInt (Nat.min 1 (n + 1 - i))) (W2.setRow r (splice C.toList (i * 3) X).toArray) := fun ty dc sc =>
    run_copyN W2 _ _ ty 79 3 Tryz.underlying62 hsz _ _ _ _ _ _ r (i * 3) C 79 hg2 X (by rw [hmin1, hxl])
      (fun _ => ⟨rfl, _, rfl, fun j v hj => by
        obtain ⟨ad', e1, e2⟩ := (hsx.below hb2).cells j v hj
        cases e1
        exact e2⟩) (by rw [hxl, hCl]; omega) h1
  obtain ⟨W3, hW3⟩ : ∃ W3, W3 = W2.setRow r (splice C.toList (i * 3) X).toArray := ⟨_, rfl⟩
  rw [← hW3] at hcp1
  have hg3 : W3.heap[r]? = some (.cells (splice C.toList (i * 3) X).toArray 79 (0, 0)) := by rw [hW3]; exact setRow_heap W2 r C _ 79 (0, 0) hg2
  have hb3' : Below w.heap.size w W3 := by rw [hW3]; exact below_setRow hb2 (by omega) _
  have hl3 : (splice C.toList (i * 3) X).length = m * 3 := by rw [length_splice _ _ _ (by rw [hxl]; simp only [Array.length_toList, hCl]; omega)]; simpa using hCl
  have hcp2 : ∀ ty dc sc, (Builtin.copy_ #[62, 62] ty #[.slice (some ⟨r, (i + 1) * 3, none⟩) (n - i) dc, .slice (some ⟨g, i * 3, none⟩) (n - i) sc]).run Tryz.prog W3.drew = .ok (goInt (Nat.min (n - i) (n - i))) (W3.drew.setRow r (splice (splice C.toList (i * 3) X).toArray.toList ((i + 1) * 3) D).toArray) := fun ty dc sc =>
    run_copyN W3.drew _ _ ty 79 3 Tryz.underlying62 hsz _ _ _ _ _ _ r ((i + 1) * 3) _ 79 hg3 D (by rw [hmin2, hDl])
      (fun _ => ⟨rfl, _, rfl, fun j v hj => by
        rw [Addr.add_lit]
        have hjF : F[i * 3 + j]? = some v := by rw [hD, List.getElem?_drop] at hj; exact hj
        obtain ⟨ad', e1, e2⟩ := (hsF.below hb3').cells (i * 3 + j) v hjF
        cases e1
        have e3 : (⟨g, 0, none⟩ : Addr).add (i * 3 + j) = ⟨g, i * 3 + j, none⟩ := by unfold Addr.add; split <;> simp_all
        rw [e3] at e2
        exact e2⟩) (by rw [List.size_toArray, hl3, hDl]; omega) (fun u hu => hF1 u (by rw [hD] at hu; exact List.mem_of_mem_drop hu))
  have Hcl := Lib.hid hCl
  have HCt := Lib.hid hCt
  have HD := Lib.hid hD
  have HDl := Lib.hid hDl
  have HFl := Lib.hid hFl
  have Hg3 := Lib.hid hg3
  have Hb3 := Lib.hid hb3'
  have Hxl := Lib.hid hxl
  have Hl3 := Lib.hid hl3
  have Htl := Lib.hid htl
  have Hr := Lib.hid hr
  have Hb := Lib.hid hb
  clear hb3' hCl hCt hD hDl hFl hg3 hxl hl3 htl hb2 hg2 hx hsx hmin1 hmin2 hsz ho hsF hr hW2 hW3 hk hb
  go_enter Tryz.func38, Tryz.ntmps38
  go_wp2_with (first | (at_builtin; refine Lib.wpList_append_run _ rfl (.tmp 34) (.tmp 39) 62 3 rfl _ _ rfl rfl _ _ (hgrow _) ?_) | (refine wpList_copyR _ rfl (.tmp 43) (.tmp 44) 62 62 rfl _ _ rfl rfl (hcp1 _ _ _) ?_))
  go_region_law (refine step_copyR rfl _ _ 62 62 rfl _ _ (by simp [Act.eval, Act.put]) (by simp [Act.eval, Act.put]) (hcp2 _ _ _) ?_)
  go_wp2_with fail
  go_ret
  have hDl := HDl.out
  have hFl := HFl.out
  have hCl := Hcl.out
  have hxl := Hxl.out
  have hl3 := Hl3.out
  have htl := Htl.out
  have hr := Hr.out
  have hb := Hb.out
  have hse := splice_seq C.toList X D (i * 3) (by simp only [Array.length_toList, hCl, hxl, hDl]; omega)
  rw [hxl, hDl, show i * 3 + 3 = (i + 1) * 3 by omega, show (i + 1) * 3 + (n - i) * 3 = (n + 1) * 3 by omega, HCt.out] at hse
  refine ⟨_, _, rfl, ⟨by rw [← HD.out, List.length_append, List.length_append, htl, hxl, hDl]; omega, .inr ⟨r, m, _, rfl, by omega, setRow_heap _ r _ _ 79 (0, 0) Hg3.out, by omega, hm2, ?_, ?_⟩⟩, ?_, fun a ha => by cases ha; exact .inr (by simp only; omega)⟩
  · rw [List.size_toArray, length_splice _ _ _ (by simp only [hl3, hDl]; omega)]
    simp only [hl3]
  · rw [← HD.out]
    simpa using hse
  · have hq := below_setRow (Hb3.out.drew) (g := r) (by omega) (splice (splice C.toList (i * 3) X).toArray.toList ((i + 1) * 3) D).toArray
    exact below_grownBy hq _

/-- slices.Insert of one element, wherever it goes -/
theorem insF_any (base : Nat) (A : Option Addr) (n c i vb : Nat) (F X : List Value) (w : World) (ho : Own base 79 3 w A n c F) (hn : n ≤ 1000000) (hi : i ≤ n) (hne : ∀ a, A = some a → a.block ≠ vb) (hx : w.heap[vb]? = some (.cells X.toArray 79 (0, 0))) (hxl : X.length = 3) (h1 : ∀ u ∈ X, u.oneCell' = true) (hF1 : ∀ u ∈ F, u.oneCell' = true) (hb : base ≤ w.heap.size) :
    Calls Tryz.prog 38 #[.slice A n c, .int .i64 i, .slice (some ⟨vb, 0, none⟩) 1 1] w fun e w' => ∃ A' c', e = .returned (.slice A' (n + 1) c') ∧ Own base 79 3 w' A' (n + 1) c' (F.take (i * 3) ++ (X ++ F.drop (i * 3))) ∧ w.grownBy w' (rowOf base A) ∧ LiesI w A A' := by
  rcases Nat.lt_or_ge i n with h | h
  · have hle := ho.sl.le
    have hAd : ∃ g, A = some ⟨g, 0, none⟩ := by
      rcases ho.2 with ⟨h0, h00⟩ | ⟨g, cap, cur, h0, _⟩
      · omega
      · simp at h0; exact ⟨g, h0.1⟩
    obtain ⟨g, rfl⟩ := hAd
    have hrow : rowOf base (some ⟨g, 0, none⟩) = some g := by rw [← own_rowI ho]; rfl
    rw [hrow]
    rcases Nat.lt_or_ge n c with hc | hc
    · exact insF_shift base g n c i vb F X w ho hn h hc (fun e => hne _ rfl e.symm) hx hxl h1 hF1
    · obtain rfl : c = n := by omega
      exact insF_grow base g c i vb F X w ho hn h hx hxl h1 hF1 hb
  · obtain rfl : i = n := by omega
    refine (insF_end base A i c vb F X w ho hn hx hxl h1 hb).mono fun e w' ⟨A', c', h1, h2, h3⟩ => ⟨A', c', h1, ?_, h3⟩
    have hl := ho.1
    rw [List.take_of_length_le (by omega), List.drop_of_length_le (by omega), List.append_nil]
    exact h2
end Go.Proofs.YtemegkapmgcffaaGreat

/- The disk, plain. -/
namespace Go.Proofs.YtemegkapmgcffaaGreat
open Go.RowKit
set_option linter.unusedSimpArgs false
set_option linter.unusedVariables false

abbrev Nm := List UInt8
structure Fl where
  nm : Nm
  b : List UInt8
  safe : Nat
structure Dk where
  room : Int
  fuse : Int
  dark : Bool
  fs : List Fl
theorem bl_irrefl (a : Nm) : Op.bytesLess a a = false := by
  induction a with
  | nil => rfl
  | cons x a ih => simp [Op.bytesLess, ih]
theorem bl_trans {a b c : Nm} (h : Op.bytesLess a b = true) (k : Op.bytesLess b c = true) : Op.bytesLess a c = true := by
  rw [Go.Proofs.bytesLess_eq] at h k ⊢
  simp only [decide_eq_true_eq] at h k ⊢
  exact List.lt_trans h k
theorem bl_tri {a b : Nm} (h : Op.bytesLess a b = false) (k : Op.bytesLess b a = false) : a = b := by
  rw [Go.Proofs.bytesLess_eq] at h k
  simp only [decide_eq_false_iff_not] at h k
  exact List.le_antisymm (List.not_lt.1 k) (List.not_lt.1 h)
theorem bl_asymm {a b : Nm} (h : Op.bytesLess a b = true) : Op.bytesLess b a = false := by
  cases k : Op.bytesLess b a with
  | false => rfl
  | true => have := bl_trans h k; rw [bl_irrefl] at this; cases this
def cmpN (a b : Nm) : Int := if Op.bytesLess a b = true then -1 else if Op.bytesLess b a = true then 1 else 0
theorem cmpN_lt {a b : Nm} (h : Op.bytesLess a b = true) : cmpN a b = -1 := by simp [cmpN, h]
theorem cmpN_gt {a b : Nm} (h : Op.bytesLess b a = true) : cmpN a b = 1 := by simp [cmpN, h, bl_asymm h]
theorem cmpN_eq (a : Nm) : cmpN a a = 0 := by simp [cmpN, bl_irrefl]
def SrtF (fs : List Fl) : Prop := ∀ (i j : Nat) (x y : Fl), i < j → fs[i]? = some x → fs[j]? = some y → Op.bytesLess x.nm y.nm = true
/-- a file's place, or where it would stand -/
def posF (fs : List Fl) (nm : Nm) : Nat := fs.findIdx fun f => !Op.bytesLess f.nm nm
def thereF (fs : List Fl) (nm : Nm) : Bool := match fs[posF fs nm]? with | some f => decide (f.nm = nm) | none => false
theorem posF_le (fs : List Fl) (nm : Nm) : posF fs nm ≤ fs.length := List.findIdx_le_length
theorem posF_of {fs : List Fl} {nm : Nm} {k : Nat} (hk : k ≤ fs.length) (h1 : ∀ j x, j < k → fs[j]? = some x → Op.bytesLess x.nm nm = true) (h2 : ∀ x, fs[k]? = some x → Op.bytesLess x.nm nm = false) : posF fs nm = k := by
  unfold posF
  rcases Nat.lt_or_ge k fs.length with h | h
  · have hx : fs[k]? = some fs[k] := List.getElem?_eq_getElem h
    rw [List.findIdx_eq h]
    refine ⟨by have := h2 _ hx; simpa using this, fun j hj => ?_⟩
    have := h1 j fs[j] hj (by simp)
    simp [this]
  · obtain rfl : k = fs.length := by omega
    rw [List.findIdx_eq_length]
    intro x hx
    obtain ⟨j, hj, rfl⟩ := List.getElem_of_mem hx
    have := h1 j fs[j] hj (by simp)
    simp [this]
theorem posF_low {fs : List Fl} {nm : Nm} {j : Nat} {x : Fl} (hj : j < posF fs nm) (hx : fs[j]? = some x) : Op.bytesLess x.nm nm = true := by
  have := List.not_of_lt_findIdx hj
  obtain ⟨h, rfl⟩ := List.getElem?_eq_some_iff.1 hx
  simpa using this
theorem posF_at {fs : List Fl} {nm : Nm} {x : Fl} (hx : fs[posF fs nm]? = some x) : Op.bytesLess x.nm nm = false := by
  obtain ⟨h, rfl⟩ := List.getElem?_eq_some_iff.1 hx
  have := List.findIdx_getElem (w := h)
  unfold posF
  simpa using this
theorem there_true {fs : List Fl} {nm : Nm} (h : thereF fs nm = true) : ∃ f, fs[posF fs nm]? = some f ∧ f.nm = nm := by
  unfold thereF at h
  split at h
  · rename_i f hf
    exact ⟨f, hf, by simpa using h⟩
  · cases h
theorem there_of {fs : List Fl} (hs : SrtF fs) {nm : Nm} {k : Nat} {f : Fl} (hf : fs[k]? = some f) (hn : f.nm = nm) : posF fs nm = k ∧ thereF fs nm = true := by
  have hk := (List.getElem?_eq_some_iff.1 hf).1
  have hp : posF fs nm = k := posF_of (by omega) (fun j x hj hx => by rw [← hn]; exact hs j k x f hj hx hf) (fun x hx => by rw [hf] at hx; cases hx; rw [hn]; exact bl_irrefl _)
  refine ⟨hp, ?_⟩
  unfold thereF
  rw [hp, hf]
  simpa using hn
theorem there_not {fs : List Fl} (hs : SrtF fs) {nm : Nm} (h : thereF fs nm = false) : ∀ f, f ∈ fs → f.nm ≠ nm := by
  intro f hf hn
  obtain ⟨k, hk⟩ := List.mem_iff_getElem?.1 hf
  rw [(there_of hs hk hn).2] at h
  cases h
/-- may a name be? -/
def chF (c : UInt8) : Bool := (decide (97 ≤ c.toNat) && decide (c.toNat ≤ 122)) || (decide (48 ≤ c.toNat) && decide (c.toNat ≤ 57)) || decide (c.toNat = 46) || decide (c.toNat = 45)
def namedF (nm : Nm) : Bool := nm.all chF && (decide (0 < nm.length) && decide (nm.length ≤ 60))
def usedF (fs : List Fl) : Nat := (fs.map fun f => f.b.length).sum
def darkD (D : Dk) : Dk := { D with fuse := -1, dark := true }
def deedD (D : Dk) (fs : List Fl) : Int × Dk := if D.fuse = 0 then (15, darkD D) else (0, { D with fuse := if 0 < D.fuse then D.fuse - 1 else D.fuse, fs := fs })
def insF (fs : List Fl) (i : Nat) (f : Fl) : List Fl := fs.take i ++ f :: fs.drop i
def appF (fs : List Fl) (nm : Nm) (bs : List UInt8) : List Fl :=
  match thereF fs nm, fs[posF fs nm]? with
  | true, some f => fs.set (posF fs nm) ⟨f.nm, f.b ++ bs, f.safe⟩
  | _, _ => insF fs (posF fs nm) ⟨nm, bs, 0⟩
def appendD (D : Dk) (nm : Nm) (bs : List UInt8) : Int × Dk :=
  if D.dark = true then (15, D) else if namedF nm = false then (16, D)
  else if D.room < (usedF D.fs : Int) + bs.length ∨ (thereF D.fs nm = false ∧ D.fs.length = 200) then (5, D)
  else deedD D (appF D.fs nm bs)
def ofD (D : Dk) (nm : Nm) (may : Fl → Int) (act : Nat → Fl → List Fl) : Int × Dk :=
  if D.dark = true then (15, D) else match thereF D.fs nm, D.fs[posF D.fs nm]? with
    | true, some f => if may f ≠ 0 then (may f, D) else deedD D (act (posF D.fs nm) f)
    | _, _ => (16, D)
def syncD (D : Dk) (nm : Nm) : Int × Dk := ofD D nm (fun _ => 0) (fun i f => D.fs.set i ⟨f.nm, f.b, f.b.length⟩)
def removeD (D : Dk) (nm : Nm) : Int × Dk := ofD D nm (fun _ => 0) (fun i f => D.fs.eraseIdx i)
def moveF (fs : List Fl) (i : Nat) (f : Fl) (tn : Nm) : List Fl :=
  if thereF (fs.eraseIdx i) tn = true then (fs.eraseIdx i).set (posF (fs.eraseIdx i) tn) ⟨tn, f.b, f.safe⟩ else insF (fs.eraseIdx i) (posF (fs.eraseIdx i) tn) ⟨tn, f.b, f.safe⟩
def renameD (D : Dk) (nm tn : Nm) : Int × Dk := ofD D nm (fun _ => if namedF tn = true then 0 else 16) (fun i f => moveF D.fs i f tn)
def cutD (D : Dk) (nm : Nm) (n : Int) : Int × Dk := ofD D nm (fun f => if n < 0 ∨ (f.b.length : Int) < n then 2 else 0) (fun i f => D.fs.set i ⟨f.nm, f.b.take n.toNat, n.toNat⟩)
def lookF (fs : List Fl) (nm : Nm) : Fl := match thereF fs nm, fs[posF fs nm]? with | true, some f => f | _, _ => ⟨[], [], 0⟩
def readD (D : Dk) (nm : Nm) : List UInt8 × Int := if D.dark = true then ([], 15) else if thereF D.fs nm = true then ((lookF D.fs nm).b, 0) else ([], 16)
def armD (D : Dk) (n : Int) : Dk := if D.dark = true then D else { D with fuse := max 0 n }
def toldI (l : List Int) (i : Nat) : Int := match l[i]? with | some x => if x < 0 then 0 else x | none => 0
def leftF (f : Fl) (keep tear : Int) : Fl :=
  let e := f.safe + min keep.toNat (f.b.length - f.safe)
  let k := min tear.toNat (min ((64 - e % 64) % 64) (f.b.length - e))
  ⟨f.nm, f.b.take e ++ List.replicate k 0, e + k⟩
def crashF (fs : List Fl) (keeps torn : List Int) : List Fl := fs.mapIdx fun i f => leftF f (toldI keeps i) (toldI torn i)
def crashD (D : Dk) (keeps torn : List Int) : Dk := { D with fuse := -1, dark := false, fs := crashF D.fs keeps torn }
end Go.Proofs.YtemegkapmgcffaaGreat

/- The disk in memory; its files' places. -/
namespace Go.Proofs.YtemegkapmgcffaaGreat
open Go.RowKit
set_option linter.unusedSimpArgs false
set_option linter.unusedVariables false

/-- a file, and where its bytes lie -/
structure FE where
  f : Fl
  A : Option Addr
  c : Nat
def feC (e : FE) : List Value := [.string (bstr e.f.nm), .slice e.A e.f.b.length e.c, .int .i64 e.f.safe]
def flatFE (es : List FE) : List Value := es.flatMap feC
theorem flatFE_len (es : List FE) : (flatFE es).length = es.length * 3 := flatMap_len feC 3 (fun _ => rfl) es
theorem flatFE_one (es : List FE) : ∀ u ∈ flatFE es, u.oneCell' = true := by
  intro u hu
  simp only [flatFE, List.mem_flatMap] at hu
  obtain ⟨e, _, h⟩ := hu
  simp [feC] at h
  rcases h with rfl | rfl | rfl <;> rfl
theorem slFE_len {w : World} {A : Option Addr} {m d : Nat} {es : List FE} (h : Sl w 3 A m d (flatFE es)) : es.length = m := by have := h.len; rw [flatFE_len] at this; omega
theorem slFE_addr {w : World} {A : Option Addr} {m d : Nat} {es : List FE} (h : Sl w 3 A m d (flatFE es)) {k : Nat} {t : FE} (hk : es[k]? = some t) : ∃ ad, A = some ad := by
  obtain ⟨ad, h1, _⟩ := h.cells (k * 3 + 0) _ (flatMap_get feC 3 (fun _ => rfl) hk (j := 0) rfl)
  exact ⟨ad, h1⟩
theorem slFE_three {w : World} {ad : Addr} {m d : Nat} {es : List FE} (h : Sl w 3 (some ad) m d (flatFE es)) {k : Nat} {t : FE} (hk : es[k]? = some t) :
    w.cell? (ad.add (k * 3)) = some (.string (bstr t.f.nm)) ∧ w.cell? { block := (ad.add (k * 3)).block, off := (ad.add (k * 3)).off + 1, spot := none } = some (.slice t.A t.f.b.length t.c) ∧ w.cell? { block := (ad.add (k * 3)).block, off := (ad.add (k * 3)).off + 2, spot := none } = some (.int .i64 t.f.safe) := by
  have key : ∀ j u, (feC t)[j]? = some u → w.cell? ((ad.add (k * 3)).add j) = some u := by
    intro j u hj
    obtain ⟨a, h1, h2⟩ := h.cells (k * 3 + j) u (flatMap_get feC 3 (fun _ => rfl) hk hj)
    cases h1
    rwa [addr_add_add]
  exact ⟨key 0 _ rfl, key 1 _ rfl, key 2 _ rfl⟩
set_option maxHeartbeats 1000000 in
theorem isNaN_any (x : ByteArray) (w : World) : Calls Tryz.prog 96 #[.string x] w fun e w' => e = .returned (.bool false) ∧ w' = w := by
  go_enter Tryz.func96, Tryz.ntmps96
  go_wp2_with fail
  go_ret
  exact ⟨by simp, rfl⟩
set_option maxHeartbeats 1000000 in
theorem cmp_any (a b : Nm) (w : World) : Calls Tryz.prog 69 #[.string (bstr a), .string (bstr b)] w fun e w' => e = .returned (.int .i64 (cmpN a b)) ∧ w' = w := by
  go_enter Tryz.func69, Tryz.ntmps69
  go_wp2_with fail
  refine (isNaN_any _ _).mono ?_; rintro e w1 ⟨rfl, rfl⟩
  go_wp2_with fail
  refine (isNaN_any _ _).mono ?_; rintro e w2 ⟨rfl, rfl⟩
  cases h1 : Op.bytesLess a b with
  | true =>
    go_wp2_with fail
    go_ret
    exact ⟨by rw [cmpN_lt h1]; rfl, rfl⟩
  | false =>
    cases h2 : Op.bytesLess b a with
    | true =>
      have hne : ¬ a = b := by rintro rfl; rw [bl_irrefl] at h2; cases h2
      have hbq : (a == b) = false := by simpa using hne
      go_wp2_with fail
      go_ret
      exact ⟨by rw [cmpN_gt h2]; rfl, rfl⟩
    | false =>
      obtain rfl := bl_tri h1 h2
      go_wp2_with fail
      go_ret
      exact ⟨by rw [cmpN_eq]; rfl, rfl⟩
set_option maxHeartbeats 1000000 in
theorem plcmp_any (e : FE) (nm : Nm) (w : World) : Calls Tryz.prog 68 #[.agg #[.string (bstr e.f.nm), .slice e.A e.f.b.length e.c, .int .i64 e.f.safe], .string (bstr nm)] w fun x w' => x = .returned (.int .i64 (cmpN e.f.nm nm)) ∧ Below w.heap.size w w' := by
  have hb := below_alloc1 w (.cells #[.string (bstr e.f.nm), .slice e.A e.f.b.length e.c, .int .i64 e.f.safe] 79)
  go_enter Tryz.func68, Tryz.ntmps68
  go_wp2_with fail
  refine (cmp_any _ _ _).mono ?_; rintro x w1 ⟨rfl, rfl⟩
  go_wp2_with fail
  go_ret
  exact ⟨rfl, hb⟩
theorem ret_xb {x : Value} {a b : Bool} (h : a = b) : Ending.returned (.tuple #[x, .bool a]) = .returned (.tuple #[x, .bool b]) := by rw [h]
theorem cmpN_zero {a b : Nm} : cmpN a b = 0 ↔ a = b := by
  constructor
  · intro h
    unfold cmpN at h
    split at h
    · cases h
    · split at h
      · cases h
      · rename_i h1 h2
        exact bl_tri (by simpa using h1) (by simpa using h2)
  · rintro rfl; exact cmpN_eq a
set_option maxRecDepth 100000 in
set_option maxHeartbeats 4000000 in
theorem bsF_any (A : Option Addr) (m d : Nat) (es : List FE) (nm : Nm) (w : World) (hs : Sl w 3 A m d (flatFE es)) (hm : m ≤ 1000000) (hso : SrtF (es.map FE.f)) :
    Calls Tryz.prog 67 #[.slice A m d, .string (bstr nm), .func (.func 68) #[] #[]] w fun e w' => e = .returned (.tuple #[.int .i64 (posF (es.map FE.f) nm : Int), .bool (thereF (es.map FE.f) nm)]) ∧ Below w.heap.size w w' := by
  have hl := slFE_len hs
  have Hso := Lib.hid hso
  clear hso
  have hget : ∀ {j : Nat} {t : FE}, es[j]? = some t → (es.map FE.f)[j]? = some t.f := fun h => by rw [List.getElem?_map, h]; rfl
  have Hget := Lib.hid (fun (j : Nat) (t : FE) (h : es[j]? = some t) => hget h)
  clear hget
  go_enter Tryz.func67, Tryz.ntmps67
  go_wp2_with fail
  go_loopw [9, 10] (fun s9 s10 wx => ∃ (lo hi : Nat), lo ≤ hi ∧ hi ≤ m ∧ s9 = .int .i64 (lo : Int) ∧ s10 = .int .i64 (hi : Int) ∧ Hid (∀ j x, j < lo → (es.map FE.f)[j]? = some x → Op.bytesLess x.nm nm = true) ∧ Hid (∀ j x, hi ≤ j → (es.map FE.f)[j]? = some x → Op.bytesLess x.nm nm = false) ∧ Below w.heap.size w wx) (fun lv hv _ => (intOf hv).toNat - (intOf lv).toNat)
  case atStart => exact ⟨0, m, by omega, by omega, rfl, rfl, Lib.hid (fun j q hj => absurd hj (by omega)), Lib.hid (fun j q hj hq => by have := (List.getElem?_eq_some_iff.1 hq).1; simp at this; omega), Below.refl _ _⟩
  case round =>
    obtain ⟨lo, hi, hlh, hhm, rfl, rfl, HL, HH, hb⟩ := hrel
    by_cases h1 : (lo : Int) < (hi : Int)
    · obtain ⟨t, ht⟩ := get_some es ((lo + hi) / 2) (by omega)
      have hsx := hs.below hb
      obtain ⟨ad, rfl⟩ := slFE_addr hs ht
      obtain ⟨y0, y1, y2⟩ := slFE_three hsx ht
      have hin : (0 : Int) ≤ (((lo + hi) / 2 : Nat) : Int) ∧ (((lo + hi) / 2 : Nat) : Int) < (m : Int) := by omega
      have Ht := Lib.hid (Hget.out _ _ ht)
      have Hm := Lib.hid (show lo ≤ (lo + hi) / 2 ∧ (lo + hi) / 2 < hi by omega)
      clear ht hsx hs
      go_wp2_with fail
      refine (plcmp_any t nm _).mono ?_; rintro x w2 ⟨rfl, hb2⟩
      have hb3 := hb.trans (hb2.mono hb.size)
      clear hb hb2 y0 y1 y2
      cases h2 : Op.bytesLess t.f.nm nm with
      | true =>
        rw [cmpN_lt h2]
        have HL2 := Lib.hid (show ∀ j x, j < (lo + hi) / 2 + 1 → (es.map FE.f)[j]? = some x → Op.bytesLess x.nm nm = true from fun j x hj hx => by
          rcases Nat.lt_succ_iff_lt_or_eq.1 hj with hlt | rfl
          · exact bl_trans (Hso.out j _ x t.f hlt hx Ht.out) h2
          · rw [Ht.out] at hx; cases hx; exact h2)
        clear h2
        go_wp2_with fail
        go_roundw
        case rel => exact ⟨(lo + hi) / 2 + 1, hi, by have := Hm.out; omega, by omega, by congr 1, rfl, HL2, HH, hb3⟩
        case measure => have := Hm.out; simp [intOf]; omega
      | false =>
        have hc : cmpN t.f.nm nm = 1 ∨ cmpN t.f.nm nm = 0 := by
          unfold cmpN
          rw [h2]
          split
          · rename_i h; cases h
          · split
            · exact .inl rfl
            · exact .inr rfl
        have HH2 := Lib.hid (show ∀ j x, (lo + hi) / 2 ≤ j → (es.map FE.f)[j]? = some x → Op.bytesLess x.nm nm = false from fun j x hj hx => by
          rcases Nat.lt_or_eq_of_le hj with hlt | rfl
          · cases h3 : Op.bytesLess x.nm nm with
            | false => rfl
            | true => rw [bl_trans (Hso.out _ j t.f x hlt Ht.out hx) h3] at h2; cases h2
          · rw [Ht.out] at hx; cases hx; exact h2)
        clear h2
        rcases hc with hc | hc
        all_goals
          rw [hc]
          clear hc
          go_wp2_with fail
          go_roundw
          case rel => exact ⟨lo, (lo + hi) / 2, by have := Hm.out; omega, by have := Hm.out; omega, rfl, by congr 1, HL, HH2, hb3⟩
          case measure => have := Hm.out; simp [intOf]; omega
    · obtain rfl : lo = hi := by omega
      have hp := posF_of (fs := es.map FE.f) (nm := nm) (by simp; omega) HL.out (fun x hx => HH.out lo x (Nat.le_refl _) hx)
      have Hp := Lib.hid hp
      clear hp
      by_cases h3 : (lo : Int) < (m : Int)
      · obtain ⟨t, ht⟩ := get_some es lo (by omega)
        have hsx := hs.below hb
        obtain ⟨ad, rfl⟩ := slFE_addr hs ht
        obtain ⟨y0, y1, y2⟩ := slFE_three hsx ht
        have hin : (0 : Int) ≤ (lo : Int) ∧ (lo : Int) < (m : Int) := by omega
        have Hth := Lib.hid (show thereF (es.map FE.f) nm = decide (t.f.nm = nm) by unfold thereF; rw [Hp.out, Hget.out _ _ ht])
        clear ht hsx hs
        go_wp2_with fail
        refine (plcmp_any t nm _).mono ?_; rintro x w2 ⟨rfl, hb2⟩
        have hb3 := hb.trans (hb2.mono hb.size)
        clear hb hb2 y0 y1 y2
        have Hq := Lib.hid (cmpN_zero (a := t.f.nm) (b := nm))
        go_wp2_with fail
        go_ret2
        rw [Hp.out, Hth.out]
        exact ⟨ret_xb (by rw [Bool.eq_iff_iff]; simpa using Hq.out), hb3⟩
      · obtain rfl : lo = m := by omega
        have Hth := Lib.hid (show thereF (es.map FE.f) nm = false by unfold thereF; rw [Hp.out, List.getElem?_eq_none (by simp; omega)])
        go_wp2_with fail
        go_ret2
        rw [Hp.out, Hth.out]
        exact ⟨rfl, hb⟩
set_option maxHeartbeats 1000000 in
theorem place_any (A : Option Addr) (m d : Nat) (es : List FE) (nm : Nm) (w : World) (hs : Sl w 3 A m d (flatFE es)) (hm : m ≤ 1000000) (hso : SrtF (es.map FE.f)) :
    Calls Tryz.prog 23 #[.slice A m d, .string (bstr nm)] w fun e w' => e = .returned (.tuple #[.int .i64 (posF (es.map FE.f) nm : Int), .bool (thereF (es.map FE.f) nm)]) ∧ Below w.heap.size w w' := by
  go_enter Tryz.func23, Tryz.ntmps23
  go_wp2_with fail
  refine (bsF_any A m d es nm w hs hm hso).mono ?_; rintro x w2 ⟨rfl, hb2⟩
  go_wp2_with fail
  go_ret2
  exact ⟨rfl, hb2⟩
end Go.Proofs.YtemegkapmgcffaaGreat

/- The disk: names; what it is in memory; made, lit, deed. -/
namespace Go.Proofs.YtemegkapmgcffaaGreat
open Go.RowKit
set_option linter.unusedSimpArgs false
set_option linter.unusedVariables false

theorem all_snoc {l : Nm} {k : Nat} {x : UInt8} (h : l[k]? = some x) : (l.take (k + 1)).all chF = ((l.take k).all chF && chF x) := by
  rw [List.take_add_one, h]
  simp
theorem idx_str (s : Nm) (k : Nat) (x : UInt8) (hx : s[k]? = some x) (w : World) : (Instr.index 9 (.string (bstr s)) (.int .i64 (k : Int))).run Tryz.prog w = .ok (.int .u8 (x.toNat : Int)) w := by
  obtain ⟨h1, h2⟩ := List.getElem?_eq_some_iff.1 hx
  rw [run_index_string (h := Tryz.underlying9), dif_pos ⟨by omega, by show (k : Int) < (s.length : Int); omega⟩]
  subst h2
  rfl
set_option maxRecDepth 100000 in
set_option maxHeartbeats 4000000 in
theorem named_any (s : Nm) (hs : s.length ≤ maxLen) (w : World) : Calls Tryz.prog 34 #[.string (bstr s)] w fun e w' => e = .returned (.bool (namedF s)) ∧ w = w' := by
  have hsz : (bstr s).size = s.length := rfl
  have hm : s.length ≤ 9223372036854775807 := hs
  go_enter Tryz.func34, Tryz.ntmps34
  go_wp2_with fail
  go_loopw [9] (fun s9 wx => ∃ k : Nat, k ≤ s.length ∧ s9 = .int .i64 (k : Int) ∧ Hid ((s.take k).all chF = true) ∧ w = wx) (fun iv _ => s.length - (intOf iv).toNat)
  case atStart => exact ⟨0, by omega, rfl, Lib.hid (by simp), rfl⟩
  case round =>
    obtain ⟨k, hk, rfl, HA, rfl⟩ := hrel
    by_cases hkn : (k : Int) < (s.length : Int)
    · obtain ⟨x, hx⟩ := get_some s k (by omega)
      have HS := Lib.hid (all_snoc hx)
      have hix := idx_str s k x hx w
      have HM := Lib.hid (List.mem_of_getElem? hx)
      obtain ⟨c, hc⟩ : ∃ c : Nat, c = x.toNat := ⟨_, rfl⟩
      rw [← hc] at hix
      have HC := Lib.hid hc
      clear hx hc
      by_cases hch : (97 ≤ c ∧ c ≤ 122) ∨ (48 ≤ c ∧ c ≤ 57) ∨ c = 46 ∨ c = 45
      · have HT := Lib.hid (show (s.take (k + 1)).all chF = true by
          rw [HS.out, HA.out, Bool.true_and]
          unfold chF
          rw [← HC.out]
          simp only [Bool.or_eq_true, Bool.and_eq_true, decide_eq_true_eq]
          omega)
        by_cases h1 : 97 ≤ c
        · by_cases h2 : c ≤ 122
          · go_wp2_with fail
            go_roundw
            case rel => exact ⟨k + 1, by omega, by go_num, HT, trivial⟩
            case measure => simp [intOf]; omega
          · exfalso; omega
        · by_cases h3 : 48 ≤ c
          · by_cases h4 : c ≤ 57
            · go_wp2_with fail
              go_roundw
              case rel => exact ⟨k + 1, by omega, by go_num, HT, trivial⟩
              case measure => simp [intOf]; omega
            · exfalso; omega
          · by_cases h5 : c = 46
            · go_wp2_with fail
              go_roundw
              case rel => exact ⟨k + 1, by omega, by go_num, HT, trivial⟩
              case measure => simp [intOf]; omega
            · obtain rfl : c = 45 := by omega
              go_wp2_with fail
              go_roundw
              case rel => exact ⟨k + 1, by omega, by go_num, HT, trivial⟩
              case measure => simp [intOf]; omega
      · have HF := Lib.hid (show namedF s = false by
          have : chF x = false := by
            unfold chF
            rw [← HC.out]
            simp only [Bool.or_eq_false_iff, Bool.and_eq_false_iff, decide_eq_false_iff_not]
            omega
          have h2 : s.all chF = false := by
            rw [List.all_eq_false]
            exact ⟨x, HM.out, by simp [this]⟩
          simp [namedF, h2])
        have h5 : ¬ c = 46 := by omega
        have h6 : ¬ c = 45 := by omega
        have n6 : ((c : Int) != 46) = true := by simp; omega
        have n5 : ((c : Int) != 45) = true := by simp; omega
        by_cases h1 : 97 ≤ c
        · have h2 : ¬ c ≤ 122 := by omega
          have n1 : decide ((c : Int) ≤ 122) = false := by simp; omega
          have n2 : decide ((c : Int) ≤ 57) = false := by simp; omega
          go_wp2_with fail
          go_ret
          exact ⟨by rw [HF.out]; rfl, rfl⟩
        · by_cases h3 : 48 ≤ c
          · have h4 : ¬ c ≤ 57 := by omega
            have n2 : decide ((c : Int) ≤ 57) = false := by simp; omega
            go_wp2_with fail
            go_ret
            exact ⟨by rw [HF.out]; rfl, rfl⟩
          · go_wp2_with fail
            go_ret
            exact ⟨by rw [HF.out]; rfl, rfl⟩
    · obtain rfl : k = s.length := by omega
      rw [List.take_length] at HA
      have HF := Lib.hid (show namedF s = (decide (0 < s.length) && decide (s.length ≤ 60)) by unfold namedF; rw [HA.out, Bool.true_and])
      by_cases h1 : 0 < s.length
      · by_cases h2 : s.length ≤ 60
        · go_wp2_with fail
          go_ret
          exact ⟨by rw [HF.out]; simp [h1, h2]; try omega, rfl⟩
        · go_wp2_with fail
          go_ret
          exact ⟨by rw [HF.out]; simp [h2]; try omega, rfl⟩
      · go_wp2_with fail
        go_ret
        exact ⟨by rw [HF.out]; simp [h1], rfl⟩
end Go.Proofs.YtemegkapmgcffaaGreat

/- The disk: what it is in memory; made, lit, deed. -/
namespace Go.Proofs.YtemegkapmgcffaaGreat
open Go.RowKit
set_option linter.unusedSimpArgs false
set_option linter.unusedVariables false

/-- but for blocks of F, and new ones, nothing turns; F' is of F, or new -/
structure Cg (F F' : Nat → Prop) (w w' : World) : Prop where
  os : w'.os = w.os
  tape : w'.tape = w.tape
  output : w'.output = w.output
  size : w.heap.size ≤ w'.heap.size
  block : ∀ k, k < w.heap.size → ¬ F k → w'.heap[k]? = w.heap[k]?
  new : ∀ k, F' k → F k ∨ w.heap.size ≤ k
theorem Cg.trans {F F1 F2 : Nat → Prop} {w w1 w2 : World} (h : Cg F F1 w w1) (k : Cg F1 F2 w1 w2) : Cg F F2 w w2 :=
  ⟨k.os.trans h.os, k.tape.trans h.tape, k.output.trans h.output, Nat.le_trans h.size k.size, fun j hj hl => (k.block j (Nat.lt_of_lt_of_le hj h.size) (fun h1 => by
    rcases h.new j h1 with h2 | h2
    · exact hl h2
    · omega)).trans (h.block j hj hl), fun j hj => by
    rcases k.new j hj with h1 | h1
    · exact h.new j h1
    · exact .inr (Nat.le_trans h.size h1)⟩
theorem Cg.below {F : Nat → Prop} {w w' : World} (h : Below w.heap.size w w') : Cg F F w w' := ⟨h.os, h.tape, h.output, h.size, fun k hk _ => h.block k hk, fun _ hj => .inl hj⟩
theorem Cg.grown {F : Nat → Prop} {w w' : World} {g : Nat} (h : w.grownBy w' (some g)) (hg : F g) : Cg F F w w' := ⟨h.os, h.tape, h.output, h.size, fun k hk hl => h.block k hk (fun e => by cases e; exact hl hg), fun _ hj => .inl hj⟩
theorem Cg.mono {F F' F2 : Nat → Prop} {w w' : World} (h : Cg F F' w w') (hf : ∀ k, F2 k → F' k ∨ w.heap.size ≤ k) : Cg F F2 w w' :=
  ⟨h.os, h.tape, h.output, h.size, h.block, fun k hk => by
    rcases hf k hk with h1 | h1
    · exact h.new k h1
    · exact .inr h1⟩
theorem own_same {w w' : World} {base n c : Nat} {e : TypeId} {size : Nat} {A : Option Addr} {cs : List Value} (ho : Own base e size w A n c cs) (hk : ∀ a, A = some a → w'.heap[a.block]? = w.heap[a.block]?) : Own base e size w' A n c cs := by
  refine ⟨ho.1, ?_⟩
  rcases ho.2 with h0 | ⟨g, cap, cur, h0, h1, h2, h3⟩
  · exact .inl h0
  · refine .inr ⟨g, cap, cur, h0, h1, ?_, h3⟩
    simp only [Value.slice.injEq] at h0
    exact (hk _ h0.1).trans h2
theorem sl_same {w w' : World} {size n c : Nat} {A : Option Addr} {cs : List Value} (h : Sl w size A n c cs) (hk : ∀ a, A = some a → w'.heap[a.block]? = w.heap[a.block]?) : Sl w' size A n c cs := by
  refine ⟨?_, h.len, h.le, h.none⟩
  intro j u hj
  obtain ⟨a, h1, h2⟩ := h.cells j u hj
  refine ⟨a, h1, ?_⟩
  rw [← h2]
  have := hk a h1
  simp only [World.cell?, add_block]
  rw [this]
def dkC (R : Option Addr) (n c : Nat) (D : Dk) : List Value := [.slice R n c, .int .i64 D.room, .int .i64 D.fuse, .bool D.dark, .func (.func 23) #[] #[]]
structure Good (D : Dk) : Prop where
  srt : SrtF D.fs
  room : 0 ≤ D.room ∧ D.room ≤ 16777216
  fuse : -1 ≤ D.fuse ∧ D.fuse ≤ 9223372036854775807
  few : D.fs.length ≤ 200
  safe : ∀ f, f ∈ D.fs → f.safe ≤ f.b.length
  used : (usedF D.fs : Int) ≤ D.room
  nms : ∀ f, f ∈ D.fs → f.nm.length ≤ 60
structure DI (w : World) (base p : Nat) (D : Dk) (F : Nat → Prop) (R : Option Addr) (c : Nat) (es : List FE) : Prop where
  own : Own base 64 1 w (some ⟨p, 0, none⟩) 5 5 (dkC R es.length c D)
  row : Own base 79 3 w R es.length c (flatFE es)
  each : ∀ e, e ∈ es → Sl w 1 e.A e.f.b.length e.c (bytesV e.f.b) ∧ ∀ a, e.A = some a → F a.block ∧ a.block ≠ p ∧ ∀ r, R = some r → a.block ≠ r.block
  fs : es.map FE.f = D.fs
  good : Good D
  fp : F p
  fr : ∀ a, R = some a → F a.block ∧ a.block ≠ p
  bound : ∀ k, F k → base ≤ k ∧ k < w.heap.size
theorem fn_set (w : World) : (binOp .neq 61 (.func (.func 23) #[] #[]) Value.nilFunc).run Tryz.prog w = .ok (.bool true) w := by
  kernel_rfl
section
variable {w w' : World} {base p : Nat} {D : Dk} {F : Nat → Prop} {R : Option Addr} {c : Nat} {es : List FE}
theorem DI.kept (h : DI w base p D F R c es) (hs : w.heap.size ≤ w'.heap.size) (hk : ∀ k, F k → w'.heap[k]? = w.heap[k]?) : DI w' base p D F R c es :=
  ⟨own_same h.own (fun a ha => by cases ha; exact hk _ h.fp), own_same h.row (fun a ha => hk _ (h.fr a ha).1), fun e he => ⟨sl_same (h.each e he).1 (fun a ha => hk _ ((h.each e he).2 a ha).1), (h.each e he).2⟩, h.fs, h.good, h.fp, h.fr, fun k hf => ⟨(h.bound k hf).1, Nat.lt_of_lt_of_le (h.bound k hf).2 hs⟩⟩
theorem DI.below (h : DI w base p D F R c es) (hb : Below w.heap.size w w') : DI w' base p D F R c es := h.kept hb.size (fun k hf => hb.block k (h.bound k hf).2)
theorem DI.cell (h : DI w base p D F R c es) : w.cell? ⟨p, 0, none⟩ = some (.slice R es.length c) ∧ w.cell? ⟨p, 1, none⟩ = some (.int .i64 D.room) ∧ w.cell? ⟨p, 2, none⟩ = some (.int .i64 D.fuse) ∧ w.cell? ⟨p, 3, none⟩ = some (.bool D.dark) ∧ w.cell? ⟨p, 4, none⟩ = some (.func (.func 23) #[] #[]) := by
  have k0 := World.ownsRow.cellAt h.own 0 (by omega)
  have k1 := World.ownsRow.cellAt h.own 1 (by omega)
  have k2 := World.ownsRow.cellAt h.own 2 (by omega)
  have k3 := World.ownsRow.cellAt h.own 3 (by omega)
  have k4 := World.ownsRow.cellAt h.own 4 (by omega)
  simp only [dkC, List.getElem?_cons_succ, List.getElem?_cons_zero] at k0 k1 k2 k3 k4
  exact ⟨k0, k1, k2, k3, k4⟩
theorem DI.plt (h : DI w base p D F R c es) : base ≤ p ∧ p < w.heap.size := h.bound p h.fp
theorem DI.len (h : DI w base p D F R c es) : es.length ≤ 200 := by have := h.good.few; rw [← h.fs, List.length_map] at this; exact this
theorem Cg.bel {F' : Nat → Prop} (h : Cg F F' w w') (hF : ∀ k, F k → base ≤ k) (hb : base ≤ w.heap.size) : Below base w w' :=
  ⟨h.os, h.tape, h.output, h.size, fun k hk => h.block k (by omega) (fun hf => by have := hF k hf; omega)⟩
/-- cells of the disk itself turn -/
theorem DI.turn (h : DI w base p D F R c es) {D' : Dk} (hg : Good D') (hfs : D'.fs = D.fs) (ho : Own base 64 1 w' (some ⟨p, 0, none⟩) 5 5 (dkC R es.length c D')) (hgr : w.grownBy w' (some p)) : DI w' base p D' F R c es := by
  have hk : ∀ k, F k → k ≠ p → w'.heap[k]? = w.heap[k]? := fun k hf hne => hgr.block k (h.bound k hf).2 (fun e => hne (Option.some.inj e))
  exact ⟨ho, own_same h.row (fun a ha => hk _ (h.fr a ha).1 (h.fr a ha).2), fun e he => ⟨sl_same (h.each e he).1 (fun a ha => hk _ ((h.each e he).2 a ha).1 ((h.each e he).2 a ha).2.1), (h.each e he).2⟩, by rw [hfs]; exact h.fs, hg, h.fp, h.fr, fun k hf => ⟨(h.bound k hf).1, Nat.lt_of_lt_of_le (h.bound k hf).2 hgr.size⟩⟩
set_option maxRecDepth 100000 in
set_option maxHeartbeats 1000000 in
theorem made_any (h : DI w base p D F R c es) : Calls Tryz.prog 50 #[.pointer (some ⟨p, 0, none⟩)] w fun e w' => e = .returned (.bool true) ∧ w = w' := by
  obtain ⟨c0, c1, c2, c3, c4⟩ := h.cell
  have hnf := fun w => fn_set w
  clear h
  go_enter Tryz.func50, Tryz.ntmps50
  go_wp2_with fail
  go_ret
  exact ⟨rfl, rfl⟩
def litD (D : Dk) : Int := if D.dark = true then 15 else 0
set_option maxRecDepth 100000 in
set_option maxHeartbeats 1000000 in
theorem lit_any (h : DI w base p D F R c es) : Calls Tryz.prog 33 #[.pointer (some ⟨p, 0, none⟩)] w fun e w' => e = .returned (.int .i64 (litD D)) ∧ w = w' := by
  obtain ⟨c0, c1, c2, c3, c4⟩ := h.cell
  go_enter Tryz.func33, Tryz.ntmps33
  go_wp2_with fail
  refine (made_any h).mono ?_; rintro e w1 ⟨rfl, rfl⟩
  clear h
  cases hd : D.dark with
  | true =>
    have HL := Lib.hid (show litD D = 15 by unfold litD; rw [if_pos hd])
    rw [hd] at c3
    go_wp2_with fail
    go_ret
    exact ⟨by rw [HL.out]; rfl, rfl⟩
  | false =>
    have HL := Lib.hid (show litD D = 0 by unfold litD; rw [hd]; rfl)
    rw [hd] at c3
    go_wp2_with fail
    go_ret
    exact ⟨by rw [HL.out]; rfl, rfl⟩
def burnt (D : Dk) : Dk := { D with fuse := if 0 < D.fuse then D.fuse - 1 else D.fuse }
theorem Good.burnt {D : Dk} (h : Good D) : Good (burnt D) := ⟨h.srt, h.room, by unfold Proofs.YtemegkapmgcffaaGreat.burnt; have := h.fuse; simp only; split <;> omega, h.few, h.safe, h.used, h.nms⟩
theorem Good.dark {D : Dk} (h : Good D) : Good (darkD D) := ⟨h.srt, h.room, by unfold darkD; simp, h.few, h.safe, h.used, h.nms⟩
set_option maxRecDepth 100000 in
set_option maxHeartbeats 4000000 in
theorem deed_any (h : DI w base p D F R c es) (N : FuncId) (cap : Array Value) (Post : World → Prop) (hent : ∀ (a : Array Value) (w : World), (callFunc N a).run Tryz.prog w = .ok (.enter N a) w)
    (hdo : ∀ w1, DI w1 base p (burnt D) F R c es → w.grownBy w1 (some p) → D.fuse ≠ 0 → Calls Tryz.prog N cap w1 fun e w' => e = .returned (.tuple #[]) ∧ Post w') :
    Calls Tryz.prog 36 #[.pointer (some ⟨p, 0, none⟩), .func (.func N) #[] cap] w fun e w' => if D.fuse = 0 then e = .returned (.int .i64 15) ∧ DI w' base p (darkD D) F R c es ∧ w.grownBy w' (some p) else e = .returned (.int .i64 0) ∧ Post w' := by
  obtain ⟨c0, c1, c2, c3, c4⟩ := h.cell
  have hfu := h.good.fuse
  have y2 := World.ownsRow.frozenAt h.own 2
  have y3 := World.ownsRow.frozenAt h.own 3
  by_cases h0 : D.fuse = 0
  · have st1 := World.ownsRow.stored h.own 2 (.int .i64 (-1))
    have st2 := World.ownsRow.stored st1.1 3 (.bool true)
    have hfin : DI ((w.setCell ⟨p, 2, none⟩ (.int .i64 (-1))).setCell ⟨p, 3, none⟩ (.bool true)) base p (darkD D) F R c es := h.turn h.good.dark rfl st2.1 (st1.2.trans st2.2)
    have hgr := st1.2.trans st2.2
    have z3 := World.ownsRow.frozenAt st1.1 3
    have Hfin := Lib.hid hfin
    have Hgr := Lib.hid hgr
    rw [h0] at c2
    clear hfin hgr st1 st2 h
    go_enter Tryz.func36, Tryz.ntmps36
    go_wp2_with fail
    go_ret
    try rw [if_pos h0]
    exact ⟨rfl, Hfin.out, Hgr.out⟩
  · by_cases h1 : 0 < D.fuse
    · have st1 := World.ownsRow.stored h.own 2 (.int .i64 (D.fuse - 1))
      have hb1 : burnt D = { D with fuse := D.fuse - 1 } := by unfold burnt; rw [if_pos h1]
      have hfin : DI (w.setCell ⟨p, 2, none⟩ (.int .i64 (D.fuse - 1))) base p (burnt D) F R c es := h.turn h.good.burnt rfl (by rw [hb1]; exact st1.1) st1.2
      have Hdo := Lib.hid (hdo _ hfin st1.2 h0)
      have H0 := Lib.hid h0
      obtain ⟨fu, hf⟩ : ∃ fu, fu = D.fuse := ⟨_, rfl⟩
      rw [← hf] at c2 hfu h0 h1 Hdo
      clear hfin st1 h hb1 hf hdo
      go_enter Tryz.func36, Tryz.ntmps36
      go_wp2_with fail
      refine Hdo.out.mono ?_; rintro e w3 ⟨rfl, hp⟩
      go_wp2_with fail
      go_ret
      try rw [if_neg H0.out]
      exact ⟨rfl, hp⟩
    · have hb1 : burnt D = D := by unfold burnt; rw [if_neg h1]
      have Hdo := Lib.hid (hdo w (by rw [hb1]; exact h) (World.grownBy.refl _ _) h0)
      have H0 := Lib.hid h0
      obtain ⟨fu, hf⟩ : ∃ fu, fu = D.fuse := ⟨_, rfl⟩
      rw [← hf] at c2 hfu h0 h1
      clear h hb1 hf hdo
      go_enter Tryz.func36, Tryz.ntmps36
      go_wp2_with fail
      refine Hdo.out.mono ?_; rintro e w3 ⟨rfl, hp⟩
      go_wp2_with fail
      go_ret
      try rw [if_neg H0.out]
      exact ⟨rfl, hp⟩
end
end Go.Proofs.YtemegkapmgcffaaGreat

/- The disk: of. -/
namespace Go.Proofs.YtemegkapmgcffaaGreat
open Go.RowKit
set_option linter.unusedSimpArgs false
set_option linter.unusedVariables false

def JB1 (B : Nat) (x : Int) (v : Value) (w : World) : Prop := ∃ g, v = .pointer (some ⟨g, 0, none⟩) ∧ B ≤ g ∧ Own B 3 1 w (some ⟨g, 0, none⟩) 1 1 [.int .i64 x]
theorem JB1_stable (B : Nat) (x : Int) : Stable (JB1 B x) := fun _ _ _ hb ⟨g, e, h1, h2⟩ => ⟨g, e, h1, h2.below hb⟩
theorem of1_any {w : World} {a0 a1 : Addr} {N : FuncId} {cap : Array Value} {i : Int} {Post : World → Prop} (c0 : w.cell? a0 = some (.func (.func N) #[] cap)) (c1 : w.cell? a1 = some (.int .i64 i)) (hent : ∀ (a : Array Value) (w : World), (callFunc N a).run Tryz.prog w = .ok (.enter N a) w)
    (hN : Calls Tryz.prog N (#[.int .i64 i] ++ cap) w fun e w' => e = .returned (.tuple #[]) ∧ Post w') :
    Calls Tryz.prog 84 #[.pointer (some a0), .pointer (some a1)] w fun e w' => e = .returned (.tuple #[]) ∧ Post w' := by
  have HN := Lib.hid hN
  clear hN
  go_enter Tryz.func84, Tryz.ntmps84
  go_wp2_with fail
  refine HN.out.mono ?_; rintro e w3 ⟨rfl, hp⟩
  go_wp2_with fail
  go_end0
  exact ⟨rfl, hp⟩
theorem cellB {w w' : World} {a : Addr} {v : Value} (hb : Below w.heap.size w w') (h : w.cell? a = some v) : w'.cell? a = some v := (World.cell?_of_block (hb.block _ (World.block_lt_of_cell? _ _ h))).trans h
theorem cellG {w w' : World} {a : Addr} {v : Value} {g : Nat} (hg : w.grownBy w' (some g)) (h : w.cell? a = some v) (hne : a.block ≠ g) : w'.cell? a = some v := (World.cell?_of_block (hg.block _ (World.block_lt_of_cell? _ _ h) (fun e => hne (Option.some.inj e)))).trans h
theorem ent_of1 (a : Array Value) (w : World) : (callFunc 84 a).run Tryz.prog w = .ok (.enter 84 a) w := by kernel_rfl
section
variable {W : World} {base p : Nat} {D : Dk} {F : Nat → Prop} {R : Option Addr} {c : Nat} {es : List FE}
set_option maxRecDepth 100000 in
set_option maxHeartbeats 8000000 in
theorem of_any (h : DI W base p D F R c es) (nm : Nm) (M N : FuncId) (capM capN : Array Value) (may : Fl → Int) (Post : World → Prop)
    (entM : ∀ (a : Array Value) (w : World), (callFunc M a).run Tryz.prog w = .ok (.enter M a) w) (entN : ∀ (a : Array Value) (w : World), (callFunc N a).run Tryz.prog w = .ok (.enter N a) w)
    (hmay : ∀ e w1, es[posF D.fs nm]? = some e → Below W.heap.size W w1 → Calls Tryz.prog M (#[.agg #[.string (bstr e.f.nm), .slice e.A e.f.b.length e.c, .int .i64 e.f.safe]] ++ capM) w1 fun x w' => x = .returned (.int .i64 (may e.f)) ∧ Below w1.heap.size w1 w')
    (hdo : ∀ e w1, es[posF D.fs nm]? = some e → e.f.nm = nm → thereF D.fs nm = true → D.dark = false → may e.f = 0 → D.fuse ≠ 0 → DI w1 base p (burnt D) F R c es → Cg F F W w1 → Calls Tryz.prog N (#[.int .i64 (posF D.fs nm : Int)] ++ capN) w1 fun x w' => x = .returned (.tuple #[]) ∧ Post w') :
    Calls Tryz.prog 46 #[.pointer (some ⟨p, 0, none⟩), .string (bstr nm), .func (.func M) #[] capM, .func (.func N) #[] capN] W fun x w' =>
      (D.dark = true ∧ x = .returned (.int .i64 15) ∧ Below W.heap.size W w') ∨
      (D.dark = false ∧ thereF D.fs nm = false ∧ x = .returned (.int .i64 16) ∧ Below W.heap.size W w') ∨
      (D.dark = false ∧ thereF D.fs nm = true ∧ ∃ e, es[posF D.fs nm]? = some e ∧ e.f.nm = nm ∧
        ((may e.f ≠ 0 ∧ x = .returned (.int .i64 (may e.f)) ∧ Below W.heap.size W w') ∨ (may e.f = 0 ∧ D.fuse = 0 ∧ x = .returned (.int .i64 15) ∧ DI w' base p (darkD D) F R c es ∧ Cg F F W w') ∨ (may e.f = 0 ∧ D.fuse ≠ 0 ∧ x = .returned (.int .i64 0) ∧ Post w'))) := by
  have hb0 := below_alloc1 W (.cells #[.func (.func N) #[] capN] 47)
  have hbox := sl_cells W [.func (.func N) #[] capN] 47
  have h0 := h.below hb0
  obtain ⟨b0, hb0e⟩ : ∃ b0, b0 = W.heap.size := ⟨_, rfl⟩
  have hc0 : (W.alloc (.cells #[.func (.func N) #[] capN] 47)).cell? ⟨W.heap.size, 0, none⟩ = some (.func (.func N) #[] capN) := by
    obtain ⟨a, h1, h2⟩ := hbox.cells 0 _ rfl
    cases h1
    rwa [add_plain] at h2
  have Hmay := Lib.hid hmay
  have Hdo := Lib.hid hdo
  have hWs := h.plt
  clear hbox hmay hdo
  go_enter Tryz.func46, Tryz.ntmps46
  go_wp2_with fail
  refine (lit_any h0).mono ?_; rintro e w1 ⟨rfl, rfl⟩
  obtain ⟨wz, hwz⟩ : ∃ wz, wz = W.alloc (.cells #[.func (.func N) #[] capN] 47) := ⟨_, rfl⟩
  rw [← hwz] at h0 hb0 hc0
  rw [← hb0e] at hc0
  have hdk : litD D = 15 ∧ D.dark = true ∨ litD D = 0 ∧ D.dark = false := by unfold litD; cases D.dark <;> simp
  rcases hdk with ⟨hl, hdk⟩ | ⟨hl, hdk⟩
  · rw [hl]
    have Hb := Lib.hid hb0
    rw [hwz] at Hb
    clear hl h h0 hc0 hb0
    go_wp2_with fail
    go_ret
    exact .inl ⟨hdk, rfl, Hb.out⟩
  · rw [hl]
    have HDK := Lib.hid hdk
    obtain ⟨ps, hps⟩ : ∃ ps, ps = posF D.fs nm := ⟨_, rfl⟩
    obtain ⟨th, hth⟩ : ∃ th, th = thereF D.fs nm := ⟨_, rfl⟩
    have Hps := Lib.hid (show posF (es.map FE.f) nm = ps by rw [hps, h.fs])
    have Hth := Lib.hid (show thereF (es.map FE.f) nm = th by rw [hth, h.fs])
    have Hps2 := Lib.hid hps
    have Hth2 := Lib.hid hth
    have hpl : ps ≤ es.length := by rw [← Hps.out]; have := posF_le (es.map FE.f) nm; simpa using this
    have H := Lib.hid h0
    have hpb : p ≠ b0 := by omega
    have hbw : W.heap.size ≤ wz.heap.size := hb0.size
    rw [← hwz, ← hb0e]
    clear hl h h0 hps hth hdk hwz
    subst hb0e
    go_upto_region 4 with fail
    --@region 88 4 of4.spec
    refine wp_region_runS [13, 14] (fun k => if k = 14 then 13 else k) (fun _ _ => True) (by kernel_rfl) (by kernel_rfl) (by kernel_rfl) (R := RB wz.heap.size) (fun _ _ h => RB.below h) (fun _ _ _ => RB.trans) (fun _ _ _ _ _ => trivial) trivial ?_
    apply RunS.pure (by decide)
    · intro vs w hb hd; clear hd; simp only [List.take, putL, Act.put, List.setIfInBounds_toArray, List.set_cons_zero, List.set_cons_succ]; unfold StepOK; go_simp; exact ⟨Below.refl _ _, isV_mk _ _⟩
    apply RunS.pure (by decide)
    · intro vs w hb hd; have d0 : isV _ (vs 0) w := hd 0 (by decide) (by kernel_rfl); unfold isV at d0; clear hd; simp only [List.take, putL, Act.put, List.setIfInBounds_toArray, List.set_cons_zero, List.set_cons_succ]; unfold StepOK; go_simp; exact ⟨Below.refl _ _, isV_mk _ _⟩
    apply RunS.pure (by decide)
    · intro vs w hb hd; have d1 : isV _ (vs 1) w := hd 1 (by decide) (by kernel_rfl); unfold isV at d1; clear hd; simp only [List.take, putL, Act.put, List.setIfInBounds_toArray, List.set_cons_zero, List.set_cons_succ]; unfold StepOK; go_simp; exact ⟨Below.refl _ _, isV_mk _ _⟩
    apply RunS.pure (by decide)
    · intro vs w hb hd; have d2 : isV _ (vs 2) w := hd 2 (by decide) (by kernel_rfl); unfold isV at d2; clear hd; have hx1 := (H.out.below (hb (Nat.le_refl _))).cell.2.2.2.2; simp only [List.take, putL, Act.put, List.setIfInBounds_toArray, List.set_cons_zero, List.set_cons_succ]; unfold StepOK; go_simp; exact ⟨Below.refl _ _, isV_mk _ _⟩
    apply RunS.pure (by decide)
    · intro vs w hb hd; clear hd; simp only [List.take, putL, Act.put, List.setIfInBounds_toArray, List.set_cons_zero, List.set_cons_succ]; unfold StepOK; go_simp; exact ⟨Below.refl _ _, isV_mk _ _⟩
    apply RunS.pure (by decide)
    · intro vs w hb hd; have d4 : isV _ (vs 4) w := hd 4 (by decide) (by kernel_rfl); unfold isV at d4; clear hd; simp only [List.take, putL, Act.put, List.setIfInBounds_toArray, List.set_cons_zero, List.set_cons_succ]; unfold StepOK; go_simp; exact ⟨Below.refl _ _, isV_mk _ _⟩
    apply RunS.pure (by decide)
    · intro vs w hb hd; have d5 : isV _ (vs 5) w := hd 5 (by decide) (by kernel_rfl); unfold isV at d5; clear hd; simp only [List.take, putL, Act.put, List.setIfInBounds_toArray, List.set_cons_zero, List.set_cons_succ]; unfold StepOK; go_simp; exact ⟨Below.refl _ _, isV_mk _ _⟩
    apply RunS.pure (by decide)
    · intro vs w hb hd; have d6 : isV _ (vs 6) w := hd 6 (by decide) (by kernel_rfl); unfold isV at d6; clear hd; have hx1 := (H.out.below (hb (Nat.le_refl _))).cell.1; simp only [List.take, putL, Act.put, List.setIfInBounds_toArray, List.set_cons_zero, List.set_cons_succ]; unfold StepOK; go_simp; exact ⟨Below.refl _ _, isV_mk _ _⟩
    apply RunS.pure (by decide)
    · intro vs w hb hd; clear hd; simp only [List.take, putL, Act.put, List.setIfInBounds_toArray, List.set_cons_zero, List.set_cons_succ]; unfold StepOK; go_simp; exact ⟨Below.refl _ _, isV_mk _ _⟩
    refine RunS.such (by decide) (isV (.tuple #[.int .i64 (ps : Int), .bool th])) (fun _ _ _ _ h => h) ?_ ?_
    · intro vs w hb hd; have d3 : isV _ (vs 3) w := hd 3 (by decide) (by kernel_rfl); unfold isV at d3; have d7 : isV _ (vs 7) w := hd 7 (by decide) (by kernel_rfl); unfold isV at d7; have d8 : isV _ (vs 8) w := hd 8 (by decide) (by kernel_rfl); unfold isV at d8; clear hd; have hx1 := H.out.below (hb (Nat.le_refl _)); simp only [List.take, putL, Act.put, List.setIfInBounds_toArray, List.set_cons_zero, List.set_cons_succ]; unfold StepOK; go_simp; exact ⟨Below.refl _ _, such_of_bool (by rw [← Hps.out, ← Hth.out]; exact place_any _ _ _ es nm w hx1.row.sl (by have := hx1.len; omega) (by rw [hx1.fs]; exact hx1.good.srt))⟩
    apply RunS.pure (by decide)
    · intro vs w hb hd; have d9 := hd 9 (by decide) (by kernel_rfl); simp only [TR, Nat.reduceAdd, Nat.reduceSub, List.getD_cons_zero, List.getD_cons_succ] at d9; clear hd; unfold isV at d9; simp only [List.take, putL, Act.put, List.setIfInBounds_toArray, List.set_cons_zero, List.set_cons_succ]; unfold StepOK; go_simp; exact ⟨Below.refl _ _, isV_mk _ _⟩
    apply RunS.pure (by decide)
    · intro vs w hb hd; have d10 : isV _ (vs 10) w := hd 10 (by decide) (by kernel_rfl); unfold isV at d10; clear hd; simp only [List.take, putL, Act.put, List.setIfInBounds_toArray, List.set_cons_zero, List.set_cons_succ]; unfold StepOK; go_simp; exact ⟨Below.refl _ _, isV_mk _ _⟩
    apply RunS.pure (by decide)
    · intro vs w hb hd; have d10 : isV _ (vs 10) w := hd 10 (by decide) (by kernel_rfl); unfold isV at d10; clear hd; simp only [List.take, putL, Act.put, List.setIfInBounds_toArray, List.set_cons_zero, List.set_cons_succ]; unfold StepOK; go_simp; exact ⟨Below.refl _ _, isV_mk _ _⟩
    refine RunS.eff (by decide) (JB1 wz.heap.size 0) (JB1_stable _ _) (by rfl) (by rfl) ?_ ?_
    · intro vs w hb hd hj; clear hd; have hj2 := hj; (try simp only [prevE, lastV, lastS, List.mem_cons, List.not_mem_nil, or_false, Nat.reduceEqDiff, Nat.reduceAdd, if_true, if_false, reduceIte, or_true, true_or, or_self] at hj2); clear hj; have hB := (hb (Nat.le_refl _)).size; clear hj2; simp only [List.take, putL, Act.put, List.setIfInBounds_toArray, List.set_cons_zero, List.set_cons_succ]; unfold StepE; go_simp; exact ⟨RB.below (below_alloc1 _ _), _, rfl, hB, Own.lower (new_own _ [.int .i64 0] 3 1 rfl (by unfold maxLen; omega)) hB⟩
    refine RunS.storeAt (by decide) 13 (JB1 wz.heap.size ps) (JB1_stable _ _) (by rfl) (by decide) (by kernel_rfl) ?_ ?_
    · intro vs w hb hd hj; have d0 : isV _ (vs 0) w := hd 0 (by decide) (by kernel_rfl); unfold isV at d0; have d1 : isV _ (vs 1) w := hd 1 (by decide) (by kernel_rfl); unfold isV at d1; have d2 : isV _ (vs 2) w := hd 2 (by decide) (by kernel_rfl); unfold isV at d2; have d3 : isV _ (vs 3) w := hd 3 (by decide) (by kernel_rfl); unfold isV at d3; have d4 : isV _ (vs 4) w := hd 4 (by decide) (by kernel_rfl); unfold isV at d4; have d5 : isV _ (vs 5) w := hd 5 (by decide) (by kernel_rfl); unfold isV at d5; have d6 : isV _ (vs 6) w := hd 6 (by decide) (by kernel_rfl); unfold isV at d6; have d7 : isV _ (vs 7) w := hd 7 (by decide) (by kernel_rfl); unfold isV at d7; have d8 : isV _ (vs 8) w := hd 8 (by decide) (by kernel_rfl); unfold isV at d8; have d9 := hd 9 (by decide) (by kernel_rfl); simp only [TR, Nat.reduceAdd, Nat.reduceSub, List.getD_cons_zero, List.getD_cons_succ] at d9; have d10 : isV _ (vs 10) w := hd 10 (by decide) (by kernel_rfl); unfold isV at d10; have d11 : isV _ (vs 11) w := hd 11 (by decide) (by kernel_rfl); unfold isV at d11; clear hd; have hj2 := hj; (try simp only [prevE, lastV, lastS, List.mem_cons, List.not_mem_nil, or_false, Nat.reduceEqDiff, Nat.reduceAdd, if_true, if_false, reduceIte, or_true, true_or, or_self] at hj2); clear hj; obtain ⟨g, eg, hBg, ho⟩ := hj2; have y0 := World.ownsRow.cellAt ho 0 (by omega); have x0 := World.ownsRow.frozenAt ho 0; simp only [List.getElem?_cons_zero] at y0; have st := World.ownsRow.stored ho 0 (.int .i64 (ps : Int)); have hR := RB.grown st.2 hBg; have HRR := Lib.hid hR; have HOO := Lib.hid (show Own wz.heap.size 3 1 (w.setCell ⟨g, 0, none⟩ (.int .i64 (ps : Int))) (some ⟨g, 0, none⟩) 1 1 [.int .i64 (ps : Int)] from st.1); clear ho hR st; simp only [List.take, putL, Act.put, List.setIfInBounds_toArray, List.set_cons_zero, List.set_cons_succ]; unfold StepE; go_simp; first | exact ⟨HRR.out, g, eg, hBg, HOO.out⟩ | exact ⟨HRR.out, g, rfl, hBg, HOO.out⟩
    apply RunS.pure (by decide)
    · intro vs w hb hd; have d0 : isV _ (vs 0) w := hd 0 (by decide) (by kernel_rfl); unfold isV at d0; have d1 : isV _ (vs 1) w := hd 1 (by decide) (by kernel_rfl); unfold isV at d1; have d2 : isV _ (vs 2) w := hd 2 (by decide) (by kernel_rfl); unfold isV at d2; have d3 : isV _ (vs 3) w := hd 3 (by decide) (by kernel_rfl); unfold isV at d3; have d4 : isV _ (vs 4) w := hd 4 (by decide) (by kernel_rfl); unfold isV at d4; have d5 : isV _ (vs 5) w := hd 5 (by decide) (by kernel_rfl); unfold isV at d5; have d6 : isV _ (vs 6) w := hd 6 (by decide) (by kernel_rfl); unfold isV at d6; have d7 : isV _ (vs 7) w := hd 7 (by decide) (by kernel_rfl); unfold isV at d7; have d8 : isV _ (vs 8) w := hd 8 (by decide) (by kernel_rfl); unfold isV at d8; have d9 := hd 9 (by decide) (by kernel_rfl); simp only [TR, Nat.reduceAdd, Nat.reduceSub, List.getD_cons_zero, List.getD_cons_succ] at d9; have d10 : isV _ (vs 10) w := hd 10 (by decide) (by kernel_rfl); unfold isV at d10; have d11 : isV _ (vs 11) w := hd 11 (by decide) (by kernel_rfl); unfold isV at d11; have d12 : isV _ (vs 12) w := hd 12 (by decide) (by kernel_rfl); unfold isV at d12; clear hd; simp only [List.take, putL, Act.put, List.setIfInBounds_toArray, List.set_cons_zero, List.set_cons_succ]; unfold StepOK; go_simp; exact ⟨Below.refl _ _, isV_mk _ _⟩
    intro vs w1 hb hd hj
    try simp only [prevE, lastV, lastS, List.mem_cons, List.not_mem_nil, or_false, Nat.reduceEqDiff, Nat.reduceAdd, if_true, if_false, reduceIte, or_true, true_or, or_self] at hj
    have e0 : isV _ (vs 0) w1 := hd 0 (by decide)
    have e1 : isV _ (vs 1) w1 := hd 1 (by decide)
    have e2 : isV _ (vs 2) w1 := hd 2 (by decide)
    have e3 : isV _ (vs 3) w1 := hd 3 (by decide)
    have e4 : isV _ (vs 4) w1 := hd 4 (by decide)
    have e5 : isV _ (vs 5) w1 := hd 5 (by decide)
    have e6 : isV _ (vs 6) w1 := hd 6 (by decide)
    have e7 : isV _ (vs 7) w1 := hd 7 (by decide)
    have e8 : isV _ (vs 8) w1 := hd 8 (by decide)
    have e9 := hd 9 (by decide); simp only [TR, Nat.reduceAdd, Nat.reduceSub, List.getD_cons_zero, List.getD_cons_succ] at e9
    have e10 : isV _ (vs 10) w1 := hd 10 (by decide)
    have e11 : isV _ (vs 11) w1 := hd 11 (by decide)
    have e12 : isV _ (vs 12) w1 := hd 12 (by decide)
    have e15 : isV _ (vs 15) w1 := hd 15 (by decide)
    clear hd
    unfold isV at e0 e1 e2 e3 e4 e5 e6 e7 e8 e10 e11 e12 e15
    simp only [putL, Act.put, List.setIfInBounds_toArray, List.set_cons_zero, List.set_cons_succ, e0, e1, e2, e3, e4, e5, e6, e7, e8, e10, e11, e12, e15]
    clear e0 e1 e2 e3 e4 e5 e6 e7 e8 e10 e11 e12 e15
    --@end
    obtain ⟨g, eg, hBg, oI⟩ := hj
    simp only [Nat.reduceAdd, eg]
    have hbz := hb (Nat.le_refl _)
    have hW1 := hb0.trans (hbz.mono hbw)
    have h1 := H.out.below hbz
    have hcI := World.ownsRow.cellAt oI 0 (by omega)
    simp only [List.getElem?_cons_zero] at hcI
    have hc1 := cellB hbz hc0
    have HI := Lib.hid hcI
    have HC := Lib.hid hc1
    have HD := Lib.hid h1
    have hgp : p ≠ g := by have := h1.plt; have := H.out.plt; omega
    have hps200 : es.length ≤ 200 := h1.len
    clear hb hbz hb0 H hcI hc1 h1 hc0 oI hBg hbw
    obtain ⟨w0, hw0⟩ : ∃ w0 : World, w0 = w1 := ⟨_, rfl⟩
    rw [← hw0] at hW1 HI HC HD ⊢
    clear hw0
    cases th with
    | false =>
      go_wp2_with fail
      go_ret
      exact .inr (.inl ⟨HDK.out, Hth2.out.symm, rfl, hW1⟩)
    | true =>
      obtain ⟨f, hf1, hf2⟩ := there_true Hth.out
      rw [Hps.out, List.getElem?_map] at hf1
      obtain ⟨e, he, hef⟩ := Option.map_eq_some_iff.1 hf1
      have HE := Lib.hid he
      have hlt : ps < es.length := (List.getElem?_eq_some_iff.1 he).1
      have hin : (0 : Int) ≤ (ps : Int) ∧ (ps : Int) < (es.length : Int) := by omega
      obtain ⟨ad, hR⟩ := slFE_addr HD.out.row.sl he
      subst hR
      have HNM := Lib.hid (show e.f.nm = nm by rw [hef]; exact hf2)
      have HE2 := Lib.hid (show es[posF D.fs nm]? = some e by rw [← Hps2.out]; exact he)
      obtain ⟨m, hm⟩ : ∃ m, m = may e.f := ⟨_, rfl⟩
      have HMay := Lib.hid (fun w1 (hb : Below W.heap.size W w1) => by have := Hmay.out e w1 HE2.out hb; rw [← hm] at this; exact this)
      have Hm := Lib.hid hm
      have H := HD
      have hmf : ∀ (fn : Fn) (first cap : Array Value) (w : World), (Instr.makeFunc fn first cap).run Tryz.prog w = .ok (.func fn first cap) w := fun _ _ _ _ => rfl
      clear he hef hf1 hf2 hm
      go_upto_region 7 with fail
      obtain ⟨wz2, hwz2⟩ : ∃ wz2 : World, wz2 = w0 := ⟨_, rfl⟩
      rw [← hwz2] at hW1 HI HC HD H ⊢
      clear hwz2
      have hbz := hW1
      --@region 88 7 of7.spec
      refine wp_region_run (by kernel_rfl) (by kernel_rfl) ?_
      apply RunL.pure
      · intro vs w hb hd; clear hd; simp only [List.take, putL, Act.put, List.setIfInBounds_toArray, List.set_cons_zero, List.set_cons_succ]; unfold StepOK; go_simp; exact ⟨Below.refl _ _, isV_mk _ _⟩
      apply RunL.pure
      · intro vs w hb hd; clear hd; simp only [List.take, putL, Act.put, List.setIfInBounds_toArray, List.set_cons_zero, List.set_cons_succ]; unfold StepOK; go_simp; exact ⟨Below.refl _ _, isV_mk _ _⟩
      apply RunL.pure
      · intro vs w hb hd; have d1 : isV _ (vs 1) w := hd 1 (by decide) (by kernel_rfl); unfold isV at d1; clear hd; simp only [List.take, putL, Act.put, List.setIfInBounds_toArray, List.set_cons_zero, List.set_cons_succ]; unfold StepOK; go_simp; exact ⟨Below.refl _ _, isV_mk _ _⟩
      apply RunL.pure
      · intro vs w hb hd; have d2 : isV _ (vs 2) w := hd 2 (by decide) (by kernel_rfl); unfold isV at d2; clear hd; simp only [List.take, putL, Act.put, List.setIfInBounds_toArray, List.set_cons_zero, List.set_cons_succ]; unfold StepOK; go_simp; exact ⟨Below.refl _ _, isV_mk _ _⟩
      apply RunL.pure
      · intro vs w hb hd; have d3 : isV _ (vs 3) w := hd 3 (by decide) (by kernel_rfl); unfold isV at d3; clear hd; have hx1 := (H.out.below hb).cell.1; simp only [List.take, putL, Act.put, List.setIfInBounds_toArray, List.set_cons_zero, List.set_cons_succ]; unfold StepOK; go_simp; exact ⟨Below.refl _ _, isV_mk _ _⟩
      apply RunL.pure
      · intro vs w hb hd; clear hd; have hx1 := cellB hb HI.out; simp only [List.take, putL, Act.put, List.setIfInBounds_toArray, List.set_cons_zero, List.set_cons_succ]; unfold StepOK; go_simp; exact ⟨Below.refl _ _, isV_mk _ _⟩
      apply RunL.pure
      · intro vs w hb hd; have d4 : isV _ (vs 4) w := hd 4 (by decide) (by kernel_rfl); unfold isV at d4; have d5 : isV _ (vs 5) w := hd 5 (by decide) (by kernel_rfl); unfold isV at d5; clear hd; have hx1 := hin; simp only [List.take, putL, Act.put, List.setIfInBounds_toArray, List.set_cons_zero, List.set_cons_succ]; unfold StepOK; go_simp; exact ⟨Below.refl _ _, isV_mk _ _⟩
      apply RunL.pure
      · intro vs w hb hd; have d6 : isV _ (vs 6) w := hd 6 (by decide) (by kernel_rfl); unfold isV at d6; clear hd; have hx3 := slFE_three (H.out.below hb).row.sl HE.out; obtain ⟨hy0, hy1, hy2⟩ := hx3; simp only [List.take, putL, Act.put, List.setIfInBounds_toArray, List.set_cons_zero, List.set_cons_succ]; unfold StepOK; go_simp; exact ⟨Below.refl _ _, isV_mk _ _⟩
      refine RunL.such (isV (.int .i64 m)) (isV_stable _) ?_ ?_
      · intro vs w hb hd; have d0 : isV _ (vs 0) w := hd 0 (by decide) (by kernel_rfl); unfold isV at d0; have d7 : isV _ (vs 7) w := hd 7 (by decide) (by kernel_rfl); unfold isV at d7; clear hd; simp only [List.take, putL, Act.put, List.setIfInBounds_toArray, List.set_cons_zero, List.set_cons_succ]; unfold StepOK; go_simp; exact ⟨Below.refl _ _, such_of_bool (HMay.out w (hbz.trans (hb.mono hbz.size)))⟩
      apply RunL.pure
      · intro vs w hb hd; have d0 : isV _ (vs 0) w := hd 0 (by decide) (by kernel_rfl); unfold isV at d0; have d1 : isV _ (vs 1) w := hd 1 (by decide) (by kernel_rfl); unfold isV at d1; have d2 : isV _ (vs 2) w := hd 2 (by decide) (by kernel_rfl); unfold isV at d2; have d3 : isV _ (vs 3) w := hd 3 (by decide) (by kernel_rfl); unfold isV at d3; have d4 : isV _ (vs 4) w := hd 4 (by decide) (by kernel_rfl); unfold isV at d4; have d5 : isV _ (vs 5) w := hd 5 (by decide) (by kernel_rfl); unfold isV at d5; have d6 : isV _ (vs 6) w := hd 6 (by decide) (by kernel_rfl); unfold isV at d6; have d7 : isV _ (vs 7) w := hd 7 (by decide) (by kernel_rfl); unfold isV at d7; have d8 := hd 8 (by decide) (by kernel_rfl); simp only [TR, Nat.reduceAdd, Nat.reduceSub, List.getD_cons_zero, List.getD_cons_succ] at d8; clear hd; unfold isV at d8; simp only [List.take, putL, Act.put, List.setIfInBounds_toArray, List.set_cons_zero, List.set_cons_succ]; unfold StepOK; go_simp; exact ⟨Below.refl _ _, isV_mk _ _⟩
      intro vs w1 hb hd
      have e0 : isV _ (vs 0) w1 := hd 0 (by decide)
      have e1 : isV _ (vs 1) w1 := hd 1 (by decide)
      have e2 : isV _ (vs 2) w1 := hd 2 (by decide)
      have e3 : isV _ (vs 3) w1 := hd 3 (by decide)
      have e4 : isV _ (vs 4) w1 := hd 4 (by decide)
      have e5 : isV _ (vs 5) w1 := hd 5 (by decide)
      have e6 : isV _ (vs 6) w1 := hd 6 (by decide)
      have e7 : isV _ (vs 7) w1 := hd 7 (by decide)
      have e8 := hd 8 (by decide); simp only [TR, Nat.reduceAdd, Nat.reduceSub, List.getD_cons_zero, List.getD_cons_succ] at e8
      have e9 : isV _ (vs 9) w1 := hd 9 (by decide)
      clear hd
      unfold isV at e0 e1 e2 e3 e4 e5 e6 e7 e9
      simp only [putL, Act.put, List.setIfInBounds_toArray, List.set_cons_zero, List.set_cons_succ, e0, e1, e2, e3, e4, e5, e6, e7, e9]
      clear e0 e1 e2 e3 e4 e5 e6 e7 e9
      --@end
      have hW3 := hW1.trans (hb.mono hW1.size)
      have h3 := HD.out.below hb
      have hcI := cellB hb HI.out
      have hcC := cellB hb HC.out
      clear HD H HI HC hW1 hbz hb
      by_cases hm0 : m = 0
      · have Hm0 := Lib.hid (show may e.f = 0 by rw [← Hm.out]; exact hm0)
        subst hm0
        have H3 := Lib.hid h3
        have HcI := Lib.hid hcI
        have HcC := Lib.hid hcC
        have HW3 := Lib.hid hW3
        have hfp := h3.fp
        clear h3 hcI hcC
        go_wp2_with fail
        refine (deed_any H3.out 84 _ Post ent_of1 (fun w5 h5 hg5 hfu => of1_any (cellG hg5 HcC.out (by simpa using fun e => hpb e.symm)) (cellG hg5 HcI.out (by simpa using fun e => hgp e.symm)) entN (by rw [Hps2.out]; exact Hdo.out e w5 HE2.out HNM.out Hth2.out.symm HDK.out Hm0.out hfu h5 ((Cg.below HW3.out).trans (Cg.grown hg5 hfp))))).mono ?_
        rintro x w6 hx
        by_cases hf0 : D.fuse = 0
        · rw [if_pos hf0] at hx
          obtain ⟨rfl, h6, hg6⟩ := hx
          have H6 := Lib.hid h6
          have HG6 := Lib.hid ((Cg.below HW3.out).trans (Cg.grown hg6 hfp))
          have Hf0 := Lib.hid hf0
          clear h6 hg6 hf0
          go_wp2_with fail
          go_ret
          exact .inr (.inr ⟨HDK.out, Hth2.out.symm, e, HE2.out, HNM.out, .inr (.inl ⟨Hm0.out, Hf0.out, rfl, H6.out, HG6.out⟩)⟩)
        · rw [if_neg hf0] at hx
          obtain ⟨rfl, h6⟩ := hx
          have H6 := Lib.hid h6
          have Hf0 := Lib.hid hf0
          clear h6 hf0
          go_wp2_with fail
          go_ret
          exact .inr (.inr ⟨HDK.out, Hth2.out.symm, e, HE2.out, HNM.out, .inr (.inr ⟨Hm0.out, Hf0.out, rfl, H6.out⟩)⟩)
      · go_wp2_with fail
        go_ret
        exact .inr (.inr ⟨HDK.out, Hth2.out.symm, e, HE2.out, HNM.out, .inl ⟨by rw [← Hm.out]; exact hm0, by rw [← Hm.out]; rfl, hW3⟩⟩)
end
end Go.Proofs.YtemegkapmgcffaaGreat

/- The disk: Sync. -/
namespace Go.Proofs.YtemegkapmgcffaaGreat
open Go.RowKit
set_option linter.unusedSimpArgs false
set_option linter.unusedVariables false

theorem used_set : ∀ {fs : List Fl} {k : Nat} {f f' : Fl}, fs[k]? = some f → usedF (fs.set k f') + f.b.length = usedF fs + f'.b.length := by
  intro fs
  induction fs with
  | nil => intro k f f' h; simp at h
  | cons x r ih =>
    intro k f f' h
    cases k with
    | zero =>
      simp at h; subst h
      simp [usedF]; omega
    | succ k =>
      have := ih (k := k) (f := f) (f' := f') (by simpa using h)
      simp [usedF] at this ⊢
      omega
theorem srt_set {fs : List Fl} {k : Nat} {f f' : Fl} (hs : SrtF fs) (h : fs[k]? = some f) (hn : f'.nm = f.nm) : SrtF (fs.set k f') := by
  have hk := (List.getElem?_eq_some_iff.1 h).1
  have key : ∀ (i : Nat) (x : Fl), (fs.set k f')[i]? = some x → ∃ y, fs[i]? = some y ∧ y.nm = x.nm := by
    intro i x hx
    rw [List.getElem?_set] at hx
    split at hx
    · rename_i he
      subst he
      cases hx
      exact ⟨f, h, hn.symm⟩
    · exact ⟨x, hx, rfl⟩
  intro i j x y hij hx hy
  obtain ⟨x2, h1, h2⟩ := key i x hx
  obtain ⟨y2, h3, h4⟩ := key j y hy
  rw [← h2, ← h4]
  exact hs i j x2 y2 hij h1 h3
theorem Good.setF {D : Dk} {k : Nat} {f f' : Fl} (h : Good D) (hf : D.fs[k]? = some f) (hn : f'.nm = f.nm) (hb : f'.b.length ≤ f.b.length) (hs : f'.safe ≤ f'.b.length) : Good { D with fs := D.fs.set k f' } := by
  refine ⟨srt_set h.srt hf hn, h.room, h.fuse, by simpa using h.few, fun x hx => ?_, ?_, fun x hx => ?_⟩
  · rcases List.mem_or_eq_of_mem_set hx with h1 | rfl
    · exact h.safe x h1
    · exact hs
  · have := used_set (f' := f') hf
    have := h.used
    simp only
    omega
  · rcases List.mem_or_eq_of_mem_set hx with h1 | rfl
    · exact h.nms x h1
    · rw [hn]; exact h.nms f (List.mem_of_getElem? hf)
section
variable {w w' : World} {base p : Nat} {D : Dk} {F : Nat → Prop} {R : Option Addr} {c : Nat} {es : List FE}
/-- the row of files turns in place -/
theorem DI.rowed (h : DI w base p D F R c es) {g k : Nat} {e e' : FE} (hR : R = some ⟨g, 0, none⟩) (he : es[k]? = some e) (hg : w.grownBy w' (some g))
    (hrow : Own base 79 3 w' R es.length c (flatFE (es.set k e'))) (hgd : Good { D with fs := D.fs.set k e'.f })
    (hA : Sl w' 1 e'.A e'.f.b.length e'.c (bytesV e'.f.b) ∧ ∀ a, e'.A = some a → F a.block ∧ a.block ≠ p ∧ a.block ≠ g) :
    DI w' base p { D with fs := D.fs.set k e'.f } F R c (es.set k e') ∧ Cg F F w w' := by
  subst hR
  have hfg := h.fr _ rfl
  have hk : ∀ k, F k → k ≠ g → w'.heap[k]? = w.heap[k]? := fun k hf hne => hg.block k (h.bound k hf).2 (fun e => hne (Option.some.inj e))
  refine ⟨⟨?_, by rw [List.length_set]; exact hrow, fun x hx => ?_, ?_, hgd, h.fp, h.fr, fun k hf => ⟨(h.bound k hf).1, Nat.lt_of_lt_of_le (h.bound k hf).2 hg.size⟩⟩, Cg.grown hg hfg.1⟩
  · rw [List.length_set]
    exact own_same h.own (fun a ha => by cases ha; exact hk _ h.fp (fun e => hfg.2 e.symm))
  · rcases List.mem_or_eq_of_mem_set hx with h1 | rfl
    · have h2 := h.each x h1
      exact ⟨sl_same h2.1 (fun a ha => hk _ (h2.2 a ha).1 ((h2.2 a ha).2.2 _ rfl)), h2.2⟩
    · exact ⟨hA.1, fun a ha => ⟨(hA.2 a ha).1, (hA.2 a ha).2.1, fun r hr => by cases hr; exact (hA.2 a ha).2.2⟩⟩
  · rw [List.map_set, h.fs]
theorem flat_set {es : List FE} {k : Nat} {e e' : FE} (he : es[k]? = some e) (j : Nat) (v : Value) (hj : j < 3) (hv : feC e' = (feC e).set j v) : flatFE (es.set k e') = (flatFE es).set (k * 3 + j) v := by
  induction es generalizing k with
  | nil => simp at he
  | cons x r ih =>
    cases k with
    | zero =>
      simp at he; subst he
      simp only [List.set_cons_zero, flatFE, List.flatMap_cons, hv, Nat.zero_mul, Nat.zero_add]
      rw [List.set_append_left _ _ (by simp [feC]; omega)]
    | succ k =>
      have := ih (k := k) (by simpa using he)
      simp only [List.set_cons_succ, flatFE, List.flatMap_cons] at this ⊢
      rw [this, List.set_append_right _ _ (by simp [feC]; omega)]
      congr 2
      simp [feC]; omega
theorem rowAddr (h : DI w base p D F R c es) {k : Nat} {e : FE} (he : es[k]? = some e) : ∃ g, R = some ⟨g, 0, none⟩ := by
  have hk := (List.getElem?_eq_some_iff.1 he).1
  rcases h.row.2 with ⟨h1, h2⟩ | ⟨g, cap, cur, h1, _⟩
  · omega
  · simp only [Value.slice.injEq] at h1
    exact ⟨g, h1.1⟩
set_option maxRecDepth 100000 in
set_option maxHeartbeats 4000000 in
theorem sync1_any (h : DI w base p D F R c es) {box : Addr} (hbx : w.cell? box = some (.pointer (some ⟨p, 0, none⟩))) {k : Nat} {e : FE} (he : es[k]? = some e) :
    Calls Tryz.prog 74 #[.int .i64 (k : Int), .pointer (some box)] w fun x w' => x = .returned (.tuple #[]) ∧ DI w' base p { D with fs := D.fs.set k ⟨e.f.nm, e.f.b, e.f.b.length⟩ } F R c (es.set k ⟨⟨e.f.nm, e.f.b, e.f.b.length⟩, e.A, e.c⟩) ∧ Cg F F w w' := by
  obtain ⟨g, rfl⟩ := rowAddr h he
  obtain ⟨c0, c1, c2, c3, c4⟩ := h.cell
  obtain ⟨y0, y1, y2⟩ := slFE_three h.row.sl he
  have hk := (List.getElem?_eq_some_iff.1 he).1
  have hin : (0 : Int) ≤ (k : Int) ∧ (k : Int) < (es.length : Int) := by omega
  have hl200 := h.len
  have hk3 : k < 200 := by omega
  rw [add_plain] at y0 y1 y2
  simp only [] at y1 y2
  have hfz := World.ownsRow.frozenAt h.row (k * 3 + 2)
  have st := World.ownsRow.stored (w := w.drew) (h := h.row) (k * 3 + 2) (.int .i64 (e.f.b.length : Int))
  have hd := h.below (below_drewN (Below.refl _ _) 1)
  have hgd := h.good.setF (k := k) (f := e.f) (f' := ⟨e.f.nm, e.f.b, e.f.b.length⟩) (by rw [← h.fs, List.getElem?_map, he]; rfl) rfl (Nat.le_refl _) (Nat.le_refl _)
  have hea := (h.each e (List.mem_of_getElem? he)).2
  have hfin := hd.rowed (e' := ⟨⟨e.f.nm, e.f.b, e.f.b.length⟩, e.A, e.c⟩) rfl he st.2 (by rw [flat_set he 2 (.int .i64 (e.f.b.length : Int)) (by omega) rfl]; exact st.1) hgd ⟨sl_same (hd.each e (List.mem_of_getElem? he)).1 (fun a ha => st.2.block _ (hd.bound _ (hea a ha).1).2 (fun e2 => (hea a ha).2.2 _ rfl (Option.some.inj e2))), fun a ha => ⟨(hea a ha).1, (hea a ha).2.1, (hea a ha).2.2 _ rfl⟩⟩
  have Hfin := Lib.hid (And.intro hfin.1 ((Cg.below (F := F) (show Below w.heap.size w w.drew from (Below.refl _ _).drew)).trans hfin.2))
  clear hfin st hd hgd h hea c1 c2 c3 c4 y0
  go_enter Tryz.func74, Tryz.ntmps74
  go_still_tail 16, (by kernel_rfl)
  change wpList _ _ _ _ _ w.drew
  have hfz2 : w.drew.frozen? ⟨g, k * 3 + 2, none⟩ = false := hfz
  have hy2 : w.drew.cell? ⟨g, k * 3 + 2, none⟩ = some (.int .i64 (e.f.safe : Int)) := y2
  generalize w.drew = w2 at *
  go_wp2_with fail
  go_end0
  exact ⟨rfl, Hfin.out.1, Hfin.out.2⟩
end
end Go.Proofs.YtemegkapmgcffaaGreat

/- The disk: Sync, whole. -/
namespace Go.Proofs.YtemegkapmgcffaaGreat
open Go.RowKit
set_option linter.unusedSimpArgs false
set_option linter.unusedVariables false

def DkIs (w : World) (base p : Nat) (D : Dk) (F : Nat → Prop) : Prop := ∃ R c es, DI w base p D F R c es
theorem DkIs.below {w w' : World} {base p : Nat} {D : Dk} {F : Nat → Prop} (h : DkIs w base p D F) (hb : Below w.heap.size w w') : DkIs w' base p D F := by
  obtain ⟨R, c, es, h⟩ := h
  exact ⟨R, c, es, h.below hb⟩
theorem ent_always (a : Array Value) (w : World) : (callFunc 47 a).run Tryz.prog w = .ok (.enter 47 a) w := by kernel_rfl
theorem ent_sync1 (a : Array Value) (w : World) : (callFunc 74 a).run Tryz.prog w = .ok (.enter 74 a) w := by kernel_rfl
set_option maxHeartbeats 1000000 in
theorem always_any (a b c : Value) (w : World) : Calls Tryz.prog 47 #[.agg #[a, b, c]] w fun x w' => x = .returned (.int .i64 0) ∧ Below w.heap.size w w' := by
  have hb := below_alloc1 w (.cells #[a, b, c] 79)
  go_enter Tryz.func47, Tryz.ntmps47
  go_wp2_with fail
  go_ret
  exact ⟨rfl, by first | exact hb | exact Below.refl _ _⟩
section
variable {W : World} {base p : Nat} {D : Dk} {F : Nat → Prop} {R : Option Addr} {c : Nat} {es : List FE}
theorem DI.fsAt (h : DI W base p D F R c es) {k : Nat} {e : FE} (he : es[k]? = some e) : D.fs[k]? = some e.f := by
  have : (es.map FE.f)[k]? = some e.f := by rw [List.getElem?_map, he]; rfl
  rwa [h.fs] at this
theorem of_law (h : DI W base p D F R c es) {nm : Nm} {may : Fl → Int} {act : Nat → Fl → List Fl} {x : Ending} {w' : World}
    (hx : (D.dark = true ∧ x = .returned (.int .i64 15) ∧ Below W.heap.size W w') ∨
      (D.dark = false ∧ thereF D.fs nm = false ∧ x = .returned (.int .i64 16) ∧ Below W.heap.size W w') ∨
      (D.dark = false ∧ thereF D.fs nm = true ∧ ∃ e, es[posF D.fs nm]? = some e ∧ e.f.nm = nm ∧
        ((may e.f ≠ 0 ∧ x = .returned (.int .i64 (may e.f)) ∧ Below W.heap.size W w') ∨ (may e.f = 0 ∧ D.fuse = 0 ∧ x = .returned (.int .i64 15) ∧ DI w' base p (darkD D) F R c es ∧ Cg F F W w') ∨ (may e.f = 0 ∧ D.fuse ≠ 0 ∧ x = .returned (.int .i64 0) ∧ ∃ f F', D.fs[posF D.fs nm]? = some f ∧ DkIs w' base p { burnt D with fs := act (posF D.fs nm) f } F' ∧ Cg F F' W w')))) :
    x = .returned (.int .i64 (ofD D nm may act).1) ∧ ∃ F', DkIs w' base p (ofD D nm may act).2 F' ∧ Cg F F' W w' := by
  have same : ∀ w', Below W.heap.size W w' → ∃ F', DkIs w' base p D F' ∧ Cg F F' W w' := fun w' hb => ⟨F, ⟨R, c, es, h.below hb⟩, Cg.below hb⟩
  rcases hx with ⟨h1, rfl, h2⟩ | ⟨h1, h3, rfl, h2⟩ | ⟨h1, h3, e, h4, h5, h6⟩
  · have e1 : ofD D nm may act = (15, D) := by unfold ofD; rw [if_pos h1]
    rw [e1]
    exact ⟨rfl, same _ h2⟩
  · have e1 : ofD D nm may act = (16, D) := by unfold ofD; rw [if_neg (by rw [h1]; simp), h3]
    rw [e1]
    exact ⟨rfl, same _ h2⟩
  · have h7 : D.fs[posF D.fs nm]? = some e.f := by
      have : (es.map FE.f)[posF D.fs nm]? = some e.f := by rw [List.getElem?_map, h4]; rfl
      rwa [h.fs] at this
    have e0 : ofD D nm may act = if may e.f ≠ 0 then (may e.f, D) else deedD D (act (posF D.fs nm) e.f) := by
      unfold ofD
      rw [if_neg (by rw [h1]; simp), h3, h7]
    rw [e0]
    rcases h6 with ⟨k1, rfl, k2⟩ | ⟨k1, k2, rfl, k3, k4⟩ | ⟨k1, k2, rfl, f, F', k5, k3, k4⟩
    · rw [if_pos k1]
      exact ⟨rfl, same _ k2⟩
    · rw [if_neg (by simpa using k1)]
      unfold deedD
      rw [if_pos k2]
      exact ⟨rfl, F, ⟨R, c, es, k3⟩, k4⟩
    · rw [if_neg (by simpa using k1)]
      unfold deedD
      rw [if_neg k2]
      rw [h7] at k5
      cases k5
      exact ⟨rfl, F', k3, k4⟩
theorem box_kept {w w' : World} {F F' : Nat → Prop} (h : Cg F F' w w') {b : Nat} {v : Value} (hc : w.cell? ⟨b, 0, none⟩ = some v) (hF : ¬ F b) : w'.cell? ⟨b, 0, none⟩ = some v :=
  (World.cell?_of_block (h.block b (by have := World.block_lt_of_cell? _ _ hc; exact this) hF)).trans hc
theorem app2 (a b : Value) : (#[a] ++ #[b] : Array Value) = #[a, b] := rfl
theorem box_new (w : World) (v : Value) (t : TypeId) : (w.alloc (.cells #[v] t)).cell? ⟨w.heap.size, 0, none⟩ = some v := by
  obtain ⟨a, h1, h2⟩ := (sl_cells w [v] t).cells 0 _ rfl
  cases h1
  rwa [add_plain] at h2
set_option maxRecDepth 100000 in
set_option maxHeartbeats 4000000 in
theorem Sync_any (h : DkIs W base p D F) (nm : Nm) :
    Calls Tryz.prog 26 #[.pointer (some ⟨p, 0, none⟩), .string (bstr nm)] W fun x w' => x = .returned (.int .i64 (syncD D nm).1) ∧ ∃ F', DkIs w' base p (syncD D nm).2 F' ∧ Cg F F' W w' := by
  obtain ⟨R, c, es, h⟩ := h
  have hmf : ∀ (fn : Fn) (first cap : Array Value) (w : World), (Instr.makeFunc fn first cap).run Tryz.prog w = .ok (.func fn first cap) w := fun _ _ _ _ => rfl
  have hb := below_alloc1 W (.cells #[.pointer (some ⟨p, 0, none⟩)] 24)
  have hbx := box_new W (.pointer (some ⟨p, 0, none⟩)) 24
  have h1 := h.below hb
  have hnb : ¬ F W.heap.size := fun hf => by have := (h.bound _ hf).2; omega
  obtain ⟨W1, hW1⟩ : ∃ W1, W1 = W.alloc (.cells #[.pointer (some ⟨p, 0, none⟩)] 24) := ⟨_, rfl⟩
  rw [← hW1] at hb hbx h1
  have Hb := Lib.hid hb
  have Hbx := Lib.hid hbx
  have H1 := Lib.hid h1
  have HW1 := Lib.hid hW1
  have Hsy := Lib.hid (show ∀ e w1, es[posF D.fs nm]? = some e → DI w1 base p (burnt D) F R c es → Cg F F W1 w1 → Calls Tryz.prog 74 (#[.int .i64 (posF D.fs nm : Int)] ++ #[.pointer (some ⟨W.heap.size, 0, none⟩)]) w1 fun x w' => x = .returned (.tuple #[]) ∧ ∃ f F', D.fs[posF D.fs nm]? = some f ∧ DkIs w' base p { burnt D with fs := D.fs.set (posF D.fs nm) ⟨f.nm, f.b, f.b.length⟩ } F' ∧ Cg F F' W1 w' from fun e w1 he h5 hc5 => by
    rw [app2]
    exact (sync1_any h5 (box_kept hc5 Hbx.out hnb) he).mono (fun x w' ⟨k1, k2, k3⟩ => ⟨k1, e.f, F, H1.out.fsAt he, ⟨_, _, _, k2⟩, hc5.trans k3⟩))
  have Hal := Lib.hid (show ∀ (e : FE) (w1 : World), Calls Tryz.prog 47 (#[.agg #[.string (bstr e.f.nm), .slice e.A e.f.b.length e.c, .int .i64 e.f.safe]] ++ #[]) w1 fun x w' => x = .returned (.int .i64 0) ∧ Below w1.heap.size w1 w' from fun e w1 => by
    rw [Array.append_empty]
    exact always_any _ _ _ w1)
  clear h1 hb h hW1
  go_enter Tryz.func26, Tryz.ntmps26
  go_wp2_with fail
  rw [← HW1.out]
  refine (of_any H1.out nm 47 74 #[] #[.pointer (some ⟨W.heap.size, 0, none⟩)] (fun _ => 0) (fun w' => ∃ f F', D.fs[posF D.fs nm]? = some f ∧ DkIs w' base p { burnt D with fs := D.fs.set (posF D.fs nm) ⟨f.nm, f.b, f.b.length⟩ } F' ∧ Cg F F' W1 w') ent_always ent_sync1 (fun e w1 _ _ => Hal.out e w1) (fun e w1 he _ _ _ _ _ h5 hc5 => Hsy.out e w1 he h5 hc5)).mono ?_
  rintro x w6 hx
  obtain ⟨rfl, F', k1, k2⟩ := of_law H1.out (may := fun _ => 0) (act := fun i f => D.fs.set i ⟨f.nm, f.b, f.b.length⟩) hx
  have K1 := Lib.hid k1
  have K2 := Lib.hid ((Cg.below Hb.out).trans k2)
  clear hx k1 k2
  go_wp2_with fail
  go_ret
  exact ⟨rfl, F', K1.out, K2.out⟩
end
end Go.Proofs.YtemegkapmgcffaaGreat

/- slices.Delete of one file. -/
namespace Go.Proofs.YtemegkapmgcffaaGreat
open Go.RowKit
set_option linter.unusedSimpArgs false
set_option linter.unusedVariables false

theorem grown_setRow (w : World) (g : Nat) (cs : Array Value) : w.grownBy (w.setRow g cs) (some g) :=
  ⟨rfl, rfl, rfl, by simp [World.setRow], fun k hk hne => setRow_other w g k _ (fun e => hne (by rw [e]))⟩
set_option maxRecDepth 100000 in
set_option maxHeartbeats 8000000 in
theorem delF_any (base g n c i : Nat) (F : List Value) (w : World) (ho : Own base 79 3 w (some ⟨g, 0, none⟩) n c F) (hn : n ≤ 1000000) (hi : i < n) (hF1 : ∀ u ∈ F, u.oneCell' = true) :
    Calls Tryz.prog 49 #[.slice (some ⟨g, 0, none⟩) n c, .int .i64 (i : Int), .int .i64 ((i : Int) + 1)] w fun e w' => e = .returned (.slice (some ⟨g, 0, none⟩) (n - 1) c) ∧ Own base 79 3 w' (some ⟨g, 0, none⟩) (n - 1) c (F.take (i * 3) ++ F.drop ((i + 1) * 3)) ∧ w.grownBy w' (some g) := by
  have ho0 := ho
  obtain ⟨hFl, ho2⟩ := ho
  rcases ho2 with ⟨h, _⟩ | ⟨g', cap, cur, h, hbg, hg, hle, hcm, hcs, htk⟩
  · simp at h
  simp at h
  obtain ⟨rfl, rfl⟩ := h
  have hcm2 : c ≤ 9223372036854775807 := by unfold maxLen at hcm; exact hcm
  obtain ⟨i0, hi0, hz, hs2, hby⟩ := info_parts infoIF
  obtain ⟨B, hB⟩ : ∃ B : Addr, B = if c = i + 1 then ⟨g, 0, none⟩ else (⟨g, 0, none⟩ : Addr).add ((i + 1) * 3) := ⟨_, rfl⟩
  have hel : Tryz.prog.elem 62 = 79 := by simp [Program.elem, Tryz.underlying62]
  have hAX1 : ∀ W, (Instr.slice 62 (.slice (some ⟨g, 0, none⟩) n c) (some (.int .i64 ((i : Int) + 1))) none none).run Tryz.prog W = .ok (.slice (some B) (n - (i + 1)) (c - (i + 1))) W := by
    intro W
    have h := run_slice_l W 62 (some (⟨g, 0, none⟩ : Addr)) n c (by rw [hel]; exact Tryz.underlying62) .i64 ((i : Int) + 1) (by omega) (by omega)
    rw [h, hel]
    have ht : ((i : Int) + 1).toNat = i + 1 := by omega
    simp [sizeOf, typeInfo, hi0, sliced, Result.andThen, hs2, ht, hB]
    split <;> simp_all
  have hsF : Sl w 3 (some B) (n - (i + 1)) (c - (i + 1)) (F.drop ((i + 1) * 3)) := by
    have h := (Own.sl ho0).from_ (i + 1) (by omega)
    rw [hB]
    by_cases hc : c = i + 1
    · rw [if_pos hc] at h ⊢; exact h
    · rw [if_neg hc] at h ⊢; exact h
  have HCT := Lib.hid (fun W => cut_to (P := Tryz.prog) 62 79 .i64 Tryz.underlying62 hi0 (some (⟨g, 0, none⟩ : Addr)) n c i (i : Int) rfl (by omega) W)
  have HCF := Lib.hid hAX1
  obtain ⟨N1, hN1⟩ : ∃ N1, N1 = n - 1 := ⟨_, rfl⟩
  obtain ⟨new, hnew⟩ : ∃ new, new = (splice cur.toList (i * 3) (F.drop ((i + 1) * 3))).toArray := ⟨_, rfl⟩
  have hdl : (F.drop ((i + 1) * 3)).length = (n - (i + 1)) * 3 := by rw [List.length_drop, hFl]; omega
  have HNew := Lib.hid hnew
  have HRun := Lib.hid (show ∀ w1 : World, w1.heap[g]? = some (.cells cur 79 (0, 0)) → ∀ ty, (Builtin.append_ #[62, 62] ty #[.slice (some ⟨g, 0, none⟩) i c, .slice (some B) (n - (i + 1)) (c - (i + 1))]).run Tryz.prog w1 = .ok (.slice (some ⟨g, 0, none⟩) N1 c) (w1.setRow g (splice cur.toList (i * 3) (F.drop ((i + 1) * 3))).toArray) from fun w1 h1 ty => by
    have hsl : Sl w1 3 (some B) (n - (i + 1)) (c - (i + 1)) (F.drop ((i + 1) * 3)) := sl_same hsF (fun a ha => by
      cases ha
      have : B.block = g := by rw [hB]; split <;> simp [add_block]
      rw [this, h1, hg])
    have h := run_app_room (P := Tryz.prog) w1 62 ty 79 i0 3 Tryz.underlying62 hi0 hs2 g i c cur 79 h1 B (n - (i + 1)) (c - (i + 1)) (F.drop ((i + 1) * 3)) hdl (fun j u hj => by obtain ⟨ad, e, h⟩ := hsl.cells j u hj; cases e; exact h) (fun u hu => hF1 u (List.mem_of_mem_drop hu)) (by omega) hcs
    rw [h, hN1, show i + (n - (i + 1)) = n - 1 by omega])
  have Hg := Lib.hid hg
  have Hcs := Lib.hid hcs
  have Htk := Lib.hid htk
  have HFl := Lib.hid hFl
  have HN1 := Lib.hid hN1
  have Hdl := Lib.hid hdl
  have hwk : IntKind.i64.wrap ((i : Int) + 1) = (i : Int) + 1 := by rw [IntKind.wrap_i64]; omega
  clear hg hcs htk hFl hN1 hAX1 hsF hnew hdl ho0 hB
  go_enter Tryz.func49, Tryz.ntmps49
  go_upto_region 5 with fail
  --@region 93 5 del5.spec
  refine wp_region_runE [6, 7] (fun _ w => w.heap[g]? = some (.cells cur 79 (0, 0))) (by kernel_rfl) (by kernel_rfl) (by kernel_rfl) (R := Rr g) (fun _ _ h => below_grownBy h _) (fun _ _ _ => World.grownBy.trans) (fun _ _ _ hb hj => (hb.block g (Array.getElem?_eq_some_iff.1 hj).1).trans hj) Hg.out ?_
  apply RunE.pure (by decide)
  · intro vs w hb hd; clear hd; simp only [List.take, putL, Act.put, List.setIfInBounds_toArray, List.set_cons_zero, List.set_cons_succ]; unfold StepOK; go_simp; exact ⟨Below.refl _ _, isV_mk _ _⟩
  apply RunE.pure (by decide)
  · intro vs w hb hd; clear hd; simp only [List.take, putL, Act.put, List.setIfInBounds_toArray, List.set_cons_zero, List.set_cons_succ]; unfold StepOK; go_simp; exact ⟨Below.refl _ _, isV_mk _ _⟩
  apply RunE.pure (by decide)
  · intro vs w hb hd; have d0 : isV _ (vs 0) w := hd 0 (by decide) (by kernel_rfl); unfold isV at d0; have d1 : isV _ (vs 1) w := hd 1 (by decide) (by kernel_rfl); unfold isV at d1; clear hd; have hx1 := HCT.out w; simp only [List.take, putL, Act.put, List.setIfInBounds_toArray, List.set_cons_zero, List.set_cons_succ]; unfold StepOK; go_simp; exact ⟨Below.refl _ _, isV_mk _ _⟩
  apply RunE.pure (by decide)
  · intro vs w hb hd; clear hd; simp only [List.take, putL, Act.put, List.setIfInBounds_toArray, List.set_cons_zero, List.set_cons_succ]; unfold StepOK; go_simp; exact ⟨Below.refl _ _, isV_mk _ _⟩
  apply RunE.pure (by decide)
  · intro vs w hb hd; clear hd; simp only [List.take, putL, Act.put, List.setIfInBounds_toArray, List.set_cons_zero, List.set_cons_succ]; unfold StepOK; go_simp; exact ⟨Below.refl _ _, isV_mk _ _⟩
  apply RunE.pure (by decide)
  · intro vs w hb hd; have d3 : isV _ (vs 3) w := hd 3 (by decide) (by kernel_rfl); unfold isV at d3; have d4 : isV _ (vs 4) w := hd 4 (by decide) (by kernel_rfl); unfold isV at d4; clear hd; have hx1 := HCF.out w; simp only [List.take, putL, Act.put, List.setIfInBounds_toArray, List.set_cons_zero, List.set_cons_succ]; unfold StepOK; go_simp; exact ⟨Below.refl _ _, isV_mk _ _⟩
  refine RunE.eff (by decide) ((fun v w => v = .slice (some ⟨g, 0, none⟩) N1 c ∧ w.heap[g]? = some (.cells new 79 (0, 0)))) ((fun _ _ _ hb hj => ⟨hj.1, (hb.block g (Array.getElem?_eq_some_iff.1 hj.2).1).trans hj.2⟩)) ?_ ?_
  · intro vs w hb hd hj; have d2 : isV _ (vs 2) w := hd 2 (by decide) (by kernel_rfl); unfold isV at d2; have d5 : isV _ (vs 5) w := hd 5 (by decide) (by kernel_rfl); unfold isV at d5; clear hd; have hj2 := hj; (try simp only [prevE, lastV, List.mem_cons, List.not_mem_nil, or_false, Nat.reduceEqDiff, Nat.reduceAdd, if_true, if_false, reduceIte, or_true, true_or, or_self] at hj2); clear hj; have hrun := HRun.out w hj2; exact stepE_app rfl (.tmp 22) (.tmp 25) 62 rfl (by simp [Act.eval, putL, Act.put, d2]) (by simp [Act.eval, putL, Act.put, d5]) (hrun _) (grown_setRow w g _) ⟨rfl, by rw [HNew.out]; exact setRow_heap w g cur _ 79 (0, 0) hj2⟩
  refine RunE.eff (by decide) ((fun v w => v = .slice (some ⟨g, 0, none⟩) N1 c ∧ w.heap[g]? = some (.cells new 79 (0, 0)))) ((fun _ _ _ hb hj => ⟨hj.1, (hb.block g (Array.getElem?_eq_some_iff.1 hj.2).1).trans hj.2⟩)) ?_ ?_
  · intro vs w hb hd hj; have d0 : isV _ (vs 0) w := hd 0 (by decide) (by kernel_rfl); unfold isV at d0; have d1 : isV _ (vs 1) w := hd 1 (by decide) (by kernel_rfl); unfold isV at d1; have d2 : isV _ (vs 2) w := hd 2 (by decide) (by kernel_rfl); unfold isV at d2; have d3 : isV _ (vs 3) w := hd 3 (by decide) (by kernel_rfl); unfold isV at d3; have d4 : isV _ (vs 4) w := hd 4 (by decide) (by kernel_rfl); unfold isV at d4; have d5 : isV _ (vs 5) w := hd 5 (by decide) (by kernel_rfl); unfold isV at d5; clear hd; have hj2 := hj; (try simp only [prevE, lastV, List.mem_cons, List.not_mem_nil, or_false, Nat.reduceEqDiff, Nat.reduceAdd, if_true, if_false, reduceIte, or_true, true_or, or_self] at hj2); clear hj; obtain ⟨e13, o13⟩ := hj2; simp only [List.take, putL, Act.put, List.setIfInBounds_toArray, List.set_cons_zero, List.set_cons_succ]; unfold StepE; go_simp; first | exact World.grownBy.refl _ _ | exact ⟨World.grownBy.refl _ _, o13⟩ | exact ⟨World.grownBy.refl _ _, rfl, o13⟩
  intro vs w1 hb hd hj
  try simp only [prevE, lastV, List.mem_cons, List.not_mem_nil, or_false, Nat.reduceEqDiff, Nat.reduceAdd, if_true, if_false, reduceIte, or_true, true_or, or_self] at hj
  have e0 : isV _ (vs 0) w1 := hd 0 (by decide)
  have e1 : isV _ (vs 1) w1 := hd 1 (by decide)
  have e2 : isV _ (vs 2) w1 := hd 2 (by decide)
  have e3 : isV _ (vs 3) w1 := hd 3 (by decide)
  have e4 : isV _ (vs 4) w1 := hd 4 (by decide)
  have e5 : isV _ (vs 5) w1 := hd 5 (by decide)
  clear hd
  unfold isV at e0 e1 e2 e3 e4 e5
  simp only [putL, Act.put, List.setIfInBounds_toArray, List.set_cons_zero, List.set_cons_succ, e0, e1, e2, e3, e4, e5]
  clear e0 e1 e2 e3 e4 e5
  --@end
  obtain ⟨eS, hg2⟩ := hj
  simp only [Nat.reduceAdd, eS]
  clear eS
  have hnl : new.toList.length = cur.size := by
    rw [HNew.out, List.toList_toArray, length_splice _ _ _ (by rw [Hdl.out]; have := Hcs.out; simp only [Array.length_toList]; omega)]
    simp
  have hz1 : ∀ u ∈ (Builtin.zeroCells (Value.agg #[.string { data := #[] }, .slice none 0 0, .int .i64 0]).cells 1).toList, u.oneCell' = true := by
    intro u hu
    simp only [Builtin.zeroCells, Value.cells, Array.toList_map, List.mem_map, Array.toList_range] at hu
    obtain ⟨q, _, rfl⟩ := hu
    have : q % 3 = 0 ∨ q % 3 = 1 ∨ q % 3 = 2 := by omega
    rcases this with e | e | e <;> simp [e, Value.oneCell']
  have hfit : N1 * 3 + 1 * 3 ≤ new.size := by
    have h1 : new.size = cur.size := by rw [← Array.length_toList]; exact hnl
    have h2 := Hcs.out
    have h3 := HN1.out
    omega
  have hcl : ∀ ty, (Builtin.clear_ #[62] ty #[.slice (some ⟨g, N1 * 3, none⟩) 1 (c - N1)]).run Tryz.prog w1 = .ok (.tuple #[]) (w1.setRow g (splice new.toList (N1 * 3) (Builtin.zeroCells (Value.agg #[.string { data := #[] }, .slice none 0 0, .int .i64 0]).cells 1).toList).toArray) := fun ty =>
    run_clearN w1 62 ty 79 i0 (.agg #[.string { data := #[] }, .slice none 0 0, .int .i64 0]) 3 Tryz.underlying62 hi0 hz rfl g (N1 * 3) 1 (c - N1) new 79 hg2 hz1 hfit
  have Hgr := Lib.hid (show w.grownBy w1 (some g) from hb)
  have Hg2 := Lib.hid hg2
  have Hnl := Lib.hid hnl
  have hNs : n - N1 = 1 := by have := HN1.out; omega
  obtain ⟨Z, hZ⟩ : ∃ Z, Z = (Builtin.zeroCells (Value.agg #[.string { data := #[] }, .slice none 0 0, .int .i64 0]).cells 1).toList := ⟨_, rfl⟩
  have hZl0 : Z.length = 3 := by rw [hZ, Array.length_toList, size_zeroCells]; rfl
  have HZl := Lib.hid hZl0
  have hcl2 : ∀ ty, (Builtin.clear_ #[62] ty #[.slice (some ⟨g, N1 * 3, none⟩) (n - N1) (c - N1)]).run Tryz.prog w1 = .ok (.tuple #[]) (w1.setRow g (splice new.toList (N1 * 3) Z).toArray) := fun ty => by
    rw [hNs, hZ]; exact hcl ty
  have hNc : ¬ (c = N1) := by have := HN1.out; omega
  have hNle : N1 < n := by have := HN1.out; omega
  have hnc : n ≤ c := by omega
  clear hNs hcl hZ hZl0
  clear hb hg2 hnl hz1 hfit
  go_wp2_with (at_builtin; refine wpList_clearR _ rfl (.tmp 31) 62 rfl _ rfl (hcl2 _) ?_)
  go_ret
  have hN1 := HN1.out
  have hFl := HFl.out
  have hcs := Hcs.out
  have hZl := HZl.out
  refine ⟨by rw [hN1]; rfl, ⟨?_, .inr ⟨g, c, _, rfl, hbg, setRow_heap _ g _ _ 79 (0, 0) Hg2.out, by omega, hcm, ?_, ?_⟩⟩, Hgr.out.trans (grown_setRow _ g _)⟩
  · rw [List.length_append, List.length_take, Hdl.out, hFl]; omega
  · rw [List.size_toArray, length_splice _ _ _ (by rw [hZl, Hnl.out]; omega), Hnl.out]; exact hcs
  · have htl : (F.take (i * 3)).length = i * 3 := by rw [List.length_take, hFl]; omega
    have hpre : cur.toList.take (i * 3) = F.take (i * 3) := by rw [← Htk.out, List.take_take, Nat.min_eq_left (by omega)]
    rw [List.toList_toArray, hN1]
    have e1 : (splice new.toList ((n - 1) * 3) Z).take ((n - 1) * 3) = new.toList.take ((n - 1) * 3) := by
      unfold splice
      rw [List.take_append_of_le_length (by rw [List.length_take, Hnl.out]; omega), List.take_take, Nat.min_self]
    rw [e1, HNew.out, List.toList_toArray]
    unfold splice
    rw [hpre, ← List.append_assoc, List.take_append_of_le_length (by rw [List.length_append, htl, Hdl.out]; omega), List.take_of_length_le (by rw [List.length_append, htl, Hdl.out]; omega)]
end Go.Proofs.YtemegkapmgcffaaGreat

/- The disk: Remove. -/
namespace Go.Proofs.YtemegkapmgcffaaGreat
open Go.RowKit
set_option linter.unusedSimpArgs false
set_option linter.unusedVariables false

theorem srt_erase {fs : List Fl} (hs : SrtF fs) (k : Nat) : SrtF (fs.eraseIdx k) := by
  intro i j x y hij hx hy
  rw [List.getElem?_eraseIdx] at hx hy
  split at hx <;> split at hy
  · exact hs _ _ x y hij hx hy
  · exact hs _ _ x y (by omega) hx hy
  · exact hs _ _ x y (by omega) hx hy
  · exact hs _ _ x y (by omega) hx hy
theorem used_erase : ∀ {fs : List Fl} (k : Nat), usedF (fs.eraseIdx k) ≤ usedF fs := by
  intro fs
  induction fs with
  | nil => intro k; simp [usedF]
  | cons x r ih =>
    intro k
    cases k with
    | zero => simp [usedF]
    | succ k =>
      have := ih k
      simp [usedF] at this ⊢
      omega
theorem Good.erase {D : Dk} (h : Good D) (k : Nat) : Good { D with fs := D.fs.eraseIdx k } := by
  refine ⟨srt_erase h.srt k, h.room, h.fuse, ?_, fun x hx => h.safe x (List.mem_of_mem_eraseIdx hx), ?_, fun x hx => h.nms x (List.mem_of_mem_eraseIdx hx)⟩
  · have := h.few
    have := List.length_eraseIdx_le D.fs k
    simp only
    omega
  · have := h.used
    have := used_erase (fs := D.fs) k
    simp only
    omega
theorem flat_erase (es : List FE) (k : Nat) : (flatFE es).take (k * 3) ++ (flatFE es).drop ((k + 1) * 3) = flatFE (es.eraseIdx k) := by
  unfold flatFE
  rw [flatMap_take feC 3 (fun _ => rfl), flatMap_drop feC 3 (fun _ => rfl), List.eraseIdx_eq_take_drop_succ, List.flatMap_append]
theorem grown_below {w w1 w2 : World} {row : Option Nat} (h : w.grownBy w1 row) (k : Below w1.heap.size w1 w2) : w.grownBy w2 row := grownBy_trans h (below_grownBy k _)
/-- the row is less by one, the disk not told yet -/
def JRow (base p : Nat) (D : Dk) (F : Nat → Prop) (g c : Nat) (es : List FE) (k : Nat) (w : World) : Prop := ∃ w0, DI w0 base p D F (some ⟨g, 0, none⟩) c es ∧ w0.grownBy w (some g) ∧ Own base 79 3 w (some ⟨g, 0, none⟩) (es.length - 1) c ((flatFE es).take (k * 3) ++ (flatFE es).drop ((k + 1) * 3))
theorem JRow_below {base p : Nat} {D : Dk} {F : Nat → Prop} {g c : Nat} {es : List FE} {k : Nat} {w w' : World} (h : JRow base p D F g c es k w) (hb : Below w.heap.size w w') : JRow base p D F g c es k w' := by
  obtain ⟨w0, h1, h2, h3⟩ := h
  exact ⟨w0, h1, grown_below h2 hb, h3.below hb⟩
theorem JRow_store {base p : Nat} {D : Dk} {F : Nat → Prop} {g c : Nat} {es : List FE} {k : Nat} {w : World} (h : JRow base p D F g c es k w) (hk : k < es.length) :
    w.cell? ⟨p, 0, none⟩ = some (.slice (some ⟨g, 0, none⟩) es.length c) ∧ w.frozen? ⟨p, 0, none⟩ = false ∧ Cg F F w (w.setCell ⟨p, 0, none⟩ (.slice (some ⟨g, 0, none⟩) (es.length - 1) c)) ∧ DI (w.setCell ⟨p, 0, none⟩ (.slice (some ⟨g, 0, none⟩) (es.length - 1) c)) base p { D with fs := D.fs.eraseIdx k } F (some ⟨g, 0, none⟩) c (es.eraseIdx k) := by
  obtain ⟨w0, h0, hg, hr⟩ := h
  have hfg := h0.fr _ rfl
  have ho := own_same h0.own (w' := w) (fun a ha => by cases ha; exact hg.block _ h0.plt.2 (fun e => hfg.2 (Option.some.inj e).symm))
  have hl : (es.eraseIdx k).length = es.length - 1 := List.length_eraseIdx_of_lt hk
  have k0 := World.ownsRow.cellAt ho 0 (by omega)
  simp only [dkC, List.getElem?_cons_zero] at k0
  have st := World.ownsRow.stored ho 0 (.slice (some ⟨g, 0, none⟩) (es.length - 1) c)
  have hbk : ∀ q, F q → q ≠ g → q ≠ p → (w.setCell ⟨p, 0, none⟩ (.slice (some ⟨g, 0, none⟩) (es.length - 1) c)).heap[q]? = w0.heap[q]? := fun q hf hqg hqp =>
    (st.2.block q (Nat.lt_of_lt_of_le (h0.bound q hf).2 hg.size) (fun e => hqp (Option.some.inj e))).trans (hg.block q (h0.bound q hf).2 (fun e => hqg (Option.some.inj e)))
  refine ⟨k0, World.ownsRow.frozenAt ho 0, Cg.grown st.2 h0.fp, ?_, ?_, ?_, ?_, h0.good.erase k, h0.fp, h0.fr, fun q hf => ⟨(h0.bound q hf).1, Nat.lt_of_lt_of_le (h0.bound q hf).2 (Nat.le_trans hg.size st.2.size)⟩⟩
  · rw [hl]
    have h5 := st.1
    unfold Own
    exact h5
  · rw [hl, ← flat_erase]
    exact own_same hr (fun a ha => by cases ha; exact st.2.block _ (World.ownsRow.lt hr g rfl).2 (fun e => hfg.2 (Option.some.inj e)))
  · intro x hx
    have hx2 := h0.each x (List.mem_of_mem_eraseIdx hx)
    exact ⟨sl_same hx2.1 (fun a ha => hbk _ (hx2.2 a ha).1 ((hx2.2 a ha).2.2 _ rfl) (hx2.2 a ha).2.1), hx2.2⟩
  · rw [← h0.fs]
    simp [List.eraseIdx_eq_take_drop_succ, List.map_take, List.map_drop]
section
variable {w : World} {base p : Nat} {D : Dk} {F : Nat → Prop} {R : Option Addr} {c : Nat} {es : List FE}
set_option maxRecDepth 100000 in
set_option maxHeartbeats 8000000 in
theorem remove1_any (h : DI w base p D F R c es) {bx : Nat} (hbx : w.cell? ⟨bx, 0, none⟩ = some (.pointer (some ⟨p, 0, none⟩))) (hbF : ¬ F bx) {k : Nat} {e : FE} (he : es[k]? = some e) :
    Calls Tryz.prog 48 #[.int .i64 (k : Int), .pointer (some ⟨bx, 0, none⟩)] w fun x w' => x = .returned (.tuple #[]) ∧ DI w' base p { D with fs := D.fs.eraseIdx k } F R c (es.eraseIdx k) ∧ Cg F F w w' := by
  obtain ⟨g, rfl⟩ := rowAddr h he
  have hk := (List.getElem?_eq_some_iff.1 he).1
  have hl200 := h.len
  have hwk : IntKind.i64.wrap ((k : Int) + 1) = (k : Int) + 1 := by rw [IntKind.wrap_i64]; omega
  have H := Lib.hid h
  have HBx := Lib.hid hbx
  clear h hbx he
  go_enter Tryz.func48, Tryz.ntmps48
  --@region 96 0 rem0.spec
  refine wp_region_runN [4, 8, 11] (fun _ w => DI w base p D F (some ⟨g, 0, none⟩) c es) (by kernel_rfl) (by kernel_rfl) (by kernel_rfl) (R := Cg F F) (fun _ _ h => Cg.below h) (fun _ _ _ => Cg.trans) (fun _ _ _ hb hj => DI.below hj hb) H.out ?_
  apply RunN.pure (by decide)
  · intro vs w hb hd; clear hd; have hx1 := box_kept hb HBx.out hbF; simp only [List.take, putL, Act.put, List.setIfInBounds_toArray, List.set_cons_zero, List.set_cons_succ]; unfold StepOK; go_simp; exact ⟨Below.refl _ _, isV_mk _ _⟩
  apply RunN.pure (by decide)
  · intro vs w hb hd; clear hd; have hx1 := box_kept hb HBx.out hbF; simp only [List.take, putL, Act.put, List.setIfInBounds_toArray, List.set_cons_zero, List.set_cons_succ]; unfold StepOK; go_simp; exact ⟨Below.refl _ _, isV_mk _ _⟩
  apply RunN.pure (by decide)
  · intro vs w hb hd; have d1 : isV _ (vs 1) w := hd 1 (by decide) (by kernel_rfl); unfold isV at d1; clear hd; simp only [List.take, putL, Act.put, List.setIfInBounds_toArray, List.set_cons_zero, List.set_cons_succ]; unfold StepOK; go_simp; exact ⟨Below.refl _ _, isV_mk _ _⟩
  apply RunN.pure (by decide)
  · intro vs w hb hd; have d2 : isV _ (vs 2) w := hd 2 (by decide) (by kernel_rfl); unfold isV at d2; clear hd; simp only [List.take, putL, Act.put, List.setIfInBounds_toArray, List.set_cons_zero, List.set_cons_succ]; unfold StepOK; go_simp; exact ⟨Below.refl _ _, isV_mk _ _⟩
  refine RunN.eff (by decide) ((fun v w => v = .slice (some ⟨g, 0, none⟩) es.length c ∧ DI w base p D F (some ⟨g, 0, none⟩) c es)) (fun _ _ _ hb hj => ⟨hj.1, DI.below hj.2 hb⟩) (by rfl) ?_ ?_
  · intro vs w hb hd hj; have d3 : isV _ (vs 3) w := hd 3 (by decide) (by kernel_rfl); unfold isV at d3; clear hd; have hj2 := hj; (try simp only [prevE, lastV, List.mem_cons, List.not_mem_nil, or_false, Nat.reduceEqDiff, Nat.reduceAdd, if_true, if_false, reduceIte, or_true, true_or, or_self] at hj2); clear hj; have hx1 := hj2.cell.1; simp only [List.take, putL, Act.put, List.setIfInBounds_toArray, List.set_cons_zero, List.set_cons_succ]; unfold StepE; go_simp; first | exact Cg.below (Below.refl _ _) | exact ⟨Cg.below (Below.refl _ _), hj2⟩
  apply RunN.pure (by decide)
  · intro vs w hb hd; clear hd; simp only [List.take, putL, Act.put, List.setIfInBounds_toArray, List.set_cons_zero, List.set_cons_succ]; unfold StepOK; go_simp; exact ⟨Below.refl _ _, isV_mk _ _⟩
  apply RunN.pure (by decide)
  · intro vs w hb hd; clear hd; simp only [List.take, putL, Act.put, List.setIfInBounds_toArray, List.set_cons_zero, List.set_cons_succ]; unfold StepOK; go_simp; exact ⟨Below.refl _ _, isV_mk _ _⟩
  apply RunN.pure (by decide)
  · intro vs w hb hd; have d6 : isV _ (vs 6) w := hd 6 (by decide) (by kernel_rfl); unfold isV at d6; clear hd; have hx1 := hwk; simp only [List.take, putL, Act.put, List.setIfInBounds_toArray, List.set_cons_zero, List.set_cons_succ]; unfold StepOK; go_simp; exact ⟨Below.refl _ _, isV_mk _ _⟩
  refine RunN.eff (by decide) ((fun v w => v = .slice (some ⟨g, 0, none⟩) (es.length - 1) c ∧ JRow base p D F g c es k w)) (fun _ _ _ hb hj => ⟨hj.1, JRow_below hj.2 hb⟩) (by rfl) ?_ ?_
  · intro vs w hb hd hj; have d5 : isV _ (vs 5) w := hd 5 (by decide) (by kernel_rfl); unfold isV at d5; have d7 : isV _ (vs 7) w := hd 7 (by decide) (by kernel_rfl); unfold isV at d7; clear hd; have hj2 := hj; (try simp only [prevE, lastV, List.mem_cons, List.not_mem_nil, or_false, Nat.reduceEqDiff, Nat.reduceAdd, if_true, if_false, reduceIte, or_true, true_or, or_self] at hj2); clear hj; obtain ⟨e4, h4⟩ := hj2; simp only [List.take, putL, Act.put, List.setIfInBounds_toArray, List.set_cons_zero, List.set_cons_succ]; unfold StepE; go_simp; exact ⟨Cg.below (Below.refl _ _), (delF_any base g es.length c k (flatFE es) w h4.row (by omega) hk (flatFE_one es)).mono (fun e w' ⟨he, ho, hg⟩ => ⟨_, he, Cg.grown hg (h4.fr _ rfl).1, rfl, w, h4, hg, ho⟩)⟩
  apply RunN.pure (by decide)
  · intro vs w hb hd; have d0 : isV _ (vs 0) w := hd 0 (by decide) (by kernel_rfl); unfold isV at d0; have d1 : isV _ (vs 1) w := hd 1 (by decide) (by kernel_rfl); unfold isV at d1; have d2 : isV _ (vs 2) w := hd 2 (by decide) (by kernel_rfl); unfold isV at d2; have d3 : isV _ (vs 3) w := hd 3 (by decide) (by kernel_rfl); unfold isV at d3; have d5 : isV _ (vs 5) w := hd 5 (by decide) (by kernel_rfl); unfold isV at d5; have d6 : isV _ (vs 6) w := hd 6 (by decide) (by kernel_rfl); unfold isV at d6; have d7 : isV _ (vs 7) w := hd 7 (by decide) (by kernel_rfl); unfold isV at d7; clear hd; simp only [List.take, putL, Act.put, List.setIfInBounds_toArray, List.set_cons_zero, List.set_cons_succ]; unfold StepOK; go_simp; exact ⟨Below.refl _ _, isV_mk _ _⟩
  apply RunN.pure (by decide)
  · intro vs w hb hd; have d0 : isV _ (vs 0) w := hd 0 (by decide) (by kernel_rfl); unfold isV at d0; have d1 : isV _ (vs 1) w := hd 1 (by decide) (by kernel_rfl); unfold isV at d1; have d2 : isV _ (vs 2) w := hd 2 (by decide) (by kernel_rfl); unfold isV at d2; have d3 : isV _ (vs 3) w := hd 3 (by decide) (by kernel_rfl); unfold isV at d3; have d5 : isV _ (vs 5) w := hd 5 (by decide) (by kernel_rfl); unfold isV at d5; have d6 : isV _ (vs 6) w := hd 6 (by decide) (by kernel_rfl); unfold isV at d6; have d7 : isV _ (vs 7) w := hd 7 (by decide) (by kernel_rfl); unfold isV at d7; have d9 : isV _ (vs 9) w := hd 9 (by decide) (by kernel_rfl); unfold isV at d9; clear hd; simp only [List.take, putL, Act.put, List.setIfInBounds_toArray, List.set_cons_zero, List.set_cons_succ]; unfold StepOK; go_simp; exact ⟨Below.refl _ _, isV_mk _ _⟩
  refine RunN.store (by decide) ((fun w => DI w base p { D with fs := D.fs.eraseIdx k } F (some ⟨g, 0, none⟩) c (es.eraseIdx k))) (fun _ _ _ hb hj => DI.below hj hb) ?_ ?_
  · intro vs w hb hd hj; have d0 : isV _ (vs 0) w := hd 0 (by decide) (by kernel_rfl); unfold isV at d0; have d1 : isV _ (vs 1) w := hd 1 (by decide) (by kernel_rfl); unfold isV at d1; have d2 : isV _ (vs 2) w := hd 2 (by decide) (by kernel_rfl); unfold isV at d2; have d3 : isV _ (vs 3) w := hd 3 (by decide) (by kernel_rfl); unfold isV at d3; have d5 : isV _ (vs 5) w := hd 5 (by decide) (by kernel_rfl); unfold isV at d5; have d6 : isV _ (vs 6) w := hd 6 (by decide) (by kernel_rfl); unfold isV at d6; have d7 : isV _ (vs 7) w := hd 7 (by decide) (by kernel_rfl); unfold isV at d7; have d10 : isV _ (vs 10) w := hd 10 (by decide) (by kernel_rfl); unfold isV at d10; clear hd; have hj2 := hj; (try simp only [prevE, lastV, List.mem_cons, List.not_mem_nil, or_false, Nat.reduceEqDiff, Nat.reduceAdd, if_true, if_false, reduceIte, or_true, true_or, or_self] at hj2); clear hj; obtain ⟨e8, h8⟩ := hj2; obtain ⟨q0, q1, q2, q3⟩ := JRow_store h8 hk; simp only [List.take, putL, Act.put, List.setIfInBounds_toArray, List.set_cons_zero, List.set_cons_succ]; unfold StepE; go_simp; (try exact ⟨q2, q3⟩)
  intro vs w1 hb hd hj
  try simp only [prevE, lastV, List.mem_cons, List.not_mem_nil, or_false, Nat.reduceEqDiff, Nat.reduceAdd, if_true, if_false, reduceIte, or_true, true_or, or_self] at hj
  have e0 : isV _ (vs 0) w1 := hd 0 (by decide)
  have e1 : isV _ (vs 1) w1 := hd 1 (by decide)
  have e2 : isV _ (vs 2) w1 := hd 2 (by decide)
  have e3 : isV _ (vs 3) w1 := hd 3 (by decide)
  have e5 : isV _ (vs 5) w1 := hd 5 (by decide)
  have e6 : isV _ (vs 6) w1 := hd 6 (by decide)
  have e7 : isV _ (vs 7) w1 := hd 7 (by decide)
  have e9 : isV _ (vs 9) w1 := hd 9 (by decide)
  have e10 : isV _ (vs 10) w1 := hd 10 (by decide)
  clear hd
  unfold isV at e0 e1 e2 e3 e5 e6 e7 e9 e10
  simp only [putL, Act.put, List.setIfInBounds_toArray, List.set_cons_zero, List.set_cons_succ, e0, e1, e2, e3, e5, e6, e7, e9, e10]
  clear e0 e1 e2 e3 e5 e6 e7 e9 e10
  --@end
  have Hj := Lib.hid hj
  have Hb := Lib.hid hb
  clear hj hb
  go_wp2_with fail
  go_end0
  exact ⟨rfl, Hj.out, Hb.out⟩
theorem ent_remove1 (a : Array Value) (w : World) : (callFunc 48 a).run Tryz.prog w = .ok (.enter 48 a) w := by kernel_rfl
set_option maxRecDepth 100000 in
set_option maxHeartbeats 4000000 in
theorem Remove_any (h : DkIs w base p D F) (nm : Nm) :
    Calls Tryz.prog 10 #[.pointer (some ⟨p, 0, none⟩), .string (bstr nm)] w fun x w' => x = .returned (.int .i64 (removeD D nm).1) ∧ ∃ F', DkIs w' base p (removeD D nm).2 F' ∧ Cg F F' w w' := by
  obtain ⟨R, c, es, h⟩ := h
  have hmf : ∀ (fn : Fn) (first cap : Array Value) (w : World), (Instr.makeFunc fn first cap).run Tryz.prog w = .ok (.func fn first cap) w := fun _ _ _ _ => rfl
  have hb := below_alloc1 w (.cells #[.pointer (some ⟨p, 0, none⟩)] 24)
  have hbx := box_new w (.pointer (some ⟨p, 0, none⟩)) 24
  have h1 := h.below hb
  have hnb : ¬ F w.heap.size := fun hf => by have := (h.bound _ hf).2; omega
  obtain ⟨W1, hW1⟩ : ∃ W1, W1 = w.alloc (.cells #[.pointer (some ⟨p, 0, none⟩)] 24) := ⟨_, rfl⟩
  rw [← hW1] at hb hbx h1
  have Hb := Lib.hid hb
  have Hbx := Lib.hid hbx
  have H1 := Lib.hid h1
  have HW1 := Lib.hid hW1
  have Hsy := Lib.hid (show ∀ e w1, es[posF D.fs nm]? = some e → DI w1 base p (burnt D) F R c es → Cg F F W1 w1 → Calls Tryz.prog 48 (#[.int .i64 (posF D.fs nm : Int)] ++ #[.pointer (some ⟨w.heap.size, 0, none⟩)]) w1 fun x w' => x = .returned (.tuple #[]) ∧ ∃ f F', D.fs[posF D.fs nm]? = some f ∧ DkIs w' base p { burnt D with fs := D.fs.eraseIdx (posF D.fs nm) } F' ∧ Cg F F' W1 w' from fun e w1 he h5 hc5 => by
    rw [app2]
    exact (remove1_any h5 (box_kept hc5 Hbx.out hnb) hnb he).mono (fun x w' ⟨k1, k2, k3⟩ => ⟨k1, e.f, F, H1.out.fsAt he, ⟨_, _, _, k2⟩, hc5.trans k3⟩))
  have Hal := Lib.hid (show ∀ (e : FE) (w1 : World), Calls Tryz.prog 47 (#[.agg #[.string (bstr e.f.nm), .slice e.A e.f.b.length e.c, .int .i64 e.f.safe]] ++ #[]) w1 fun x w' => x = .returned (.int .i64 0) ∧ Below w1.heap.size w1 w' from fun e w1 => by
    rw [Array.append_empty]
    exact always_any _ _ _ w1)
  clear h1 hb h hW1
  go_enter Tryz.func10, Tryz.ntmps10
  go_wp2_with fail
  rw [← HW1.out]
  refine (of_any H1.out nm 47 48 #[] #[.pointer (some ⟨w.heap.size, 0, none⟩)] (fun _ => 0) (fun w' => ∃ f F', D.fs[posF D.fs nm]? = some f ∧ DkIs w' base p { burnt D with fs := D.fs.eraseIdx (posF D.fs nm) } F' ∧ Cg F F' W1 w') ent_always ent_remove1 (fun e w1 _ _ => Hal.out e w1) (fun e w1 he _ _ _ _ _ h5 hc5 => Hsy.out e w1 he h5 hc5)).mono ?_
  rintro x w6 hx
  obtain ⟨rfl, F', k1, k2⟩ := of_law H1.out (may := fun _ => 0) (act := fun i f => D.fs.eraseIdx i) hx
  have K1 := Lib.hid k1
  have K2 := Lib.hid ((Cg.below Hb.out).trans k2)
  clear hx k1 k2
  go_wp2_with fail
  go_ret
  exact ⟨rfl, F', K1.out, K2.out⟩
end
end Go.Proofs.YtemegkapmgcffaaGreat
