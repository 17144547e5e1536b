import Derived.Test.YtcidifmikcnkcaaBase
import Derived.Laws.CopyOwn
import Derived.Lib.AppendZerosOnto
import Derived.Lib.Overlaps
import Derived.Laws.Externs
import Derived.Deep.RegionLaw
/- Laws of no program: copy at elements of any size; rows of elements of one size. -/
namespace Go.Proofs.Ytcidifmikcnkcaa
open Go.RowKit
set_option linter.unusedSimpArgs false
set_option linter.unusedVariables false

theorem run_copyN {P : Program} (w : World) (dT sT ty elem : TypeId) (size : Nat) (hu : P.underlying dT = some (.slice elem)) (hsz : (P.info? elem).map (·.size) = some size) (dp sp : Option Addr) (dLen dCap sLen sCap : Nat)
    (g off : Nat) (cur : Array Value) (t : TypeId) (hg : w.heap[g]? = some (.cells cur t (0, 0))) (cs : List Value) (hn : cs.length = Nat.min sLen dLen * size)
    (hpos : 0 < cs.length → dp = some ⟨g, off, none⟩ ∧ ∃ ad, sp = some ad ∧ ∀ j v, cs[j]? = some v → w.cell? (ad.add j) = some v)
    (hfit : off + cs.length ≤ cur.size) (h1 : ∀ v ∈ cs, v.oneCell' = true) :
    (Builtin.copy_ #[dT, sT] ty #[.slice dp dLen dCap, .slice sp sLen sCap]).run P w = .ok (goInt (Nat.min sLen dLen)) (w.setRow g (splice cur.toList off cs).toArray) := by
  cases hq : P.info? elem with
  | none => simp [hq] at hsz
  | some i =>
    have hi : i.size = size := by simpa [hq] using hsz
    by_cases h0 : cs.length = 0
    · obtain rfl : cs = [] := List.eq_nil_of_length_eq_zero h0
      have hz : Nat.min sLen dLen * size = 0 := by simpa using hn.symm
      have hs : (splice cur.toList off []).toArray = cur := by simp [splice]
      have hl : ∀ (x : Addr), (loadCells x 0).run P w = .ok #[] w := fun x => by simpa using run_loadCells_list (P := P) w x [] (by simp)
      rw [hs, setRow_self w g cur t (0, 0) hg]
      cases dp <;> cases sp <;> simp [Builtin.copy_, run_underlying hu, Builtin.lenOf, Builtin.firstCells, sizeOf, typeInfo, hq, hi, hz, storeCells, hl]
    · obtain ⟨rfl, ad, rfl, hsrc⟩ := hpos (by omega)
      have hl := run_loadCells_list (P := P) w ad cs hsrc
      have hst := run_storeCells_at P g off t cs 0 cur w hg (by simpa using hfit) h1
      simp [Builtin.copy_, run_underlying hu, Builtin.lenOf, Builtin.firstCells, sizeOf, typeInfo, hq, hi, ← hn, hl, hst, splice]

theorem wpList_copyR {P : Program} (w : World) {ops : Array Oper} {rest : List Oper} {o : Oper} {a : Act} {Q : Exit → Act → World → Prop} (hgd : o.guard = none) (d s : Operand) (t t' : TypeId)
    (ho : o.op = .call { callee := .builtin .copy, args := #[d, s], argTypes := #[t, t'] }) (v u : Value) (hd : a.eval d = v) (hs : a.eval s = u) {v' : Value} {w' : World}
    (hr : (Builtin.copy_ #[t, t'] o.type #[v, u]).run P w = .ok v' w') (h : wpList P ops Q rest (a.put o.dst v') w') : wpList P ops Q (o :: rest) a w := by
  refine wpList_plain hgd fun K hK => ?_
  unfold Oper.wp
  simp [execOp, ho, resolve, invoke, builtin, hd, hs, hr, Result.andThen]
  exact hK _ _ h

theorem step_copyR {P : Program} {ops : Array Oper} {o : Oper} {a : Act} {w : World} {K : Act → World → Prop} {Q : Exit → Act → World → Prop} {E : Prop}
    (hg : o.guard = none) (d x : Operand) (dT sT : TypeId) (hop : o.op = Op.call { callee := Callee.builtin Builtin.copy, args := #[d, x], argTypes := #[dT, sT] })
    (v u : Value) (hd : a.eval d = v) (hx : a.eval x = u) {v' : Value} {w' : World} (hr : (Builtin.copy_ #[dT, sT] o.type #[v, u]).run P w = .ok v' w') (hK : K (a.put o.dst v') w') :
    if Region.wanted o (yielded ops a.tmps) = true then Oper.wp P o a w K Q else E := by
  have hw : Region.wanted o (yielded ops a.tmps) = true := by simp [Region.wanted, hg]
  rw [if_pos hw]
  unfold Oper.wp
  simp [execOp, hop, resolve, invoke, builtin, hd, hx, hr, Result.andThen]
  exact hK

theorem run_clearN {P : Program} (w : World) (t ty e : TypeId) (i : TypeInfo) (z : Value) (size : Nat) (ht : P.underlying t = some (.slice e)) (hi : P.info? e = some i) (hz : i.zero = some z) (hzs : z.cells.size = size) (g off n c : Nat) (cur : Array Value) (te : TypeId) (hg : w.heap[g]? = some (.cells cur te (0, 0)))
    (h1 : ∀ u ∈ (Builtin.zeroCells z.cells n).toList, u.oneCell' = true) (hfit : off + n * size ≤ cur.size) :
    (Builtin.clear_ #[t] ty #[.slice (some ⟨g, off, none⟩) n c]).run P w = .ok (.tuple #[]) (w.setRow g (splice cur.toList off (Builtin.zeroCells z.cells n).toList).toArray) := by
  by_cases h0 : n = 0
  · subst h0
    have hs : (splice cur.toList off (Builtin.zeroCells z.cells 0).toList).toArray = cur := by simp [splice, Builtin.zeroCells]
    rw [hs, setRow_self w g cur te (0, 0) hg]
    simp [Builtin.clear_, run_underlying ht]
  · have hl : (Builtin.zeroCells z.cells n).toList.length = n * size := by rw [Array.length_toList, size_zeroCells, hzs]
    have hst := run_storeCells_at P g off te (Builtin.zeroCells z.cells n).toList 0 cur w hg (by rw [hl]; simpa using hfit) h1
    obtain ⟨m, rfl⟩ : ∃ m, n = m + 1 := ⟨n - 1, by omega⟩
    simp only [Nat.add_zero] at hst
    simp [Builtin.clear_, run_underlying ht, zeroValue, typeInfo, hi, hz, hst, splice]
theorem wpList_clearR {P : Program} (w : World) {ops : Array Oper} {rest : List Oper} {o : Oper} {a : Act} {Q : Exit → Act → World → Prop} (hgd : o.guard = none) (d : Operand) (t : TypeId)
    (ho : o.op = .call { callee := .builtin .clear, args := #[d], argTypes := #[t] }) (v : Value) (hd : a.eval d = v) {v' : Value} {w' : World}
    (hr : (Builtin.clear_ #[t] o.type #[v]).run P w = .ok v' w') (h : wpList P ops Q rest (a.put o.dst v') w') : wpList P ops Q (o :: rest) a w := by
  refine wpList_plain hgd fun K hK => ?_
  unfold Oper.wp
  simp [execOp, ho, resolve, invoke, builtin, hd, hr, Result.andThen]
  exact hK _ _ h
theorem sl_of_block {w : World} {g : Nat} {X : List Value} {t : TypeId} {fr : Nat × Nat} {size n : Nat} (hx : w.heap[g]? = some (.cells X.toArray t fr)) (hl : X.length = n * size) : Sl w size (some ⟨g, 0, none⟩) n n X :=
  ⟨fun j u hj => ⟨_, rfl, by
    have e : (⟨g, 0, none⟩ : Addr).add j = ⟨g, j, none⟩ := by unfold Addr.add; split <;> simp_all
    rw [e]
    simp [World.cell?, hx, hj]⟩, hl, Nat.le_refl _, fun h => by cases h⟩

/-- an insertion in place: what is behind goes up, the new one is laid over -/
theorem splice_shift {α : Type} (F1 D R X : List α) (h : X.length ≤ R.length) :
    (splice (splice (F1 ++ (D ++ R)) (F1.length + X.length) D) F1.length X).take (F1.length + X.length + D.length) = F1 ++ (X ++ D) := by
  have hl : (F1 ++ (D ++ R)).length = F1.length + (D.length + R.length) := by simp
  have e1 : (splice (F1 ++ (D ++ R)) (F1.length + X.length) D).take F1.length = F1 := by
    unfold splice
    rw [List.take_append_of_le_length (by rw [List.length_take, hl]; omega), List.take_take, Nat.min_eq_left (by omega), List.take_append_of_le_length (by omega), List.take_of_length_le (by omega)]
  have e2 : ∃ S, (splice (F1 ++ (D ++ R)) (F1.length + X.length) D).drop (F1.length + X.length) = D ++ S := by
    refine ⟨(F1 ++ (D ++ R)).drop (F1.length + X.length + D.length), ?_⟩
    unfold splice
    rw [List.drop_append_of_le_length (by rw [List.length_take, hl]; omega), List.drop_of_length_le (by rw [List.length_take, hl]; omega), List.nil_append]
  obtain ⟨S, hS⟩ := e2
  have e3 : splice (splice (F1 ++ (D ++ R)) (F1.length + X.length) D) F1.length X = (F1 ++ (X ++ D)) ++ S := by
    rw [splice, e1, hS]; simp
  rw [e3, List.take_append_of_le_length (by simp; omega), List.take_of_length_le (by simp; omega)]
theorem splice_seq {α : Type} (L X D : List α) (a : Nat) (h : a + X.length + D.length ≤ L.length) :
    (splice (splice L a X) (a + X.length) D).take (a + X.length + D.length) = L.take a ++ (X ++ D) := by
  have e1 : (splice L a X).take (a + X.length) = L.take a ++ X := by
    unfold splice
    rw [← List.append_assoc, List.take_append_of_le_length (by simp; omega), List.take_of_length_le (by simp; omega)]
  unfold splice at e1 ⊢
  rw [e1, ← List.append_assoc, List.take_append_of_le_length (by simp; omega), List.take_of_length_le (by simp; omega), List.append_assoc]
theorem flatMap_take {α β : Type} (f : α → List β) (s : Nat) (h : ∀ x, (f x).length = s) : ∀ (l : List α) (i : Nat), (l.flatMap f).take (i * s) = (l.take i).flatMap f
  | [], i => by simp
  | x :: r, 0 => by simp
  | x :: r, i + 1 => by
    rw [List.flatMap_cons, List.take_succ_cons, List.flatMap_cons, List.take_append, List.take_of_length_le (by rw [h, Nat.add_mul]; omega), h, show (i + 1) * s - s = i * s by rw [Nat.add_mul]; omega, flatMap_take f s h r i]
theorem flatMap_drop {α β : Type} (f : α → List β) (s : Nat) (h : ∀ x, (f x).length = s) : ∀ (l : List α) (i : Nat), (l.flatMap f).drop (i * s) = (l.drop i).flatMap f
  | [], i => by simp
  | x :: r, 0 => by simp
  | x :: r, i + 1 => by
    rw [List.flatMap_cons, List.drop_succ_cons, List.drop_append, List.drop_of_length_le (by rw [h, Nat.add_mul]; omega), h, show (i + 1) * s - s = i * s by rw [Nat.add_mul]; omega, flatMap_drop f s h r i, List.nil_append]
theorem flatMap_len {α β : Type} (f : α → List β) (s : Nat) (h : ∀ x, (f x).length = s) (l : List α) : (l.flatMap f).length = l.length * s := by
  induction l with
  | nil => simp
  | cons x r ih => rw [List.flatMap_cons, List.length_append, ih, h, List.length_cons, Nat.add_mul]; omega
theorem flatMap_get {α β : Type} (f : α → List β) (s : Nat) (h : ∀ x, (f x).length = s) {l : List α} {k : Nat} {x : α} (hk : l[k]? = some x) {j : Nat} {u : β} (hj : (f x)[j]? = some u) : (l.flatMap f)[k * s + j]? = some u := by
  have h1 := flatMap_drop f s h l k
  have h2 : l.drop k = x :: l.drop (k + 1) := by
    obtain ⟨h3, h4⟩ := List.getElem?_eq_some_iff.1 hk
    rw [← h4, ← List.drop_eq_getElem_cons h3]
  rw [h2, List.flatMap_cons] at h1
  have h3 : ((l.flatMap f).drop (k * s))[j]? = some u := by rw [h1, List.getElem?_append_left (List.getElem?_eq_some_iff.1 hj).1]; exact hj
  rwa [List.getElem?_drop] at h3
end Go.Proofs.Ytcidifmikcnkcaa
