import Derived.Test.YtcidifmikcnkcaaLibN
import Derived.Test.YtcidifmikcnkcaaRegionE
/- A relation for drawn regions that append in place to rows made there: the first q cells of each block stay. -/
namespace Go.Proofs.Ytcidifmikcnkcaa
open Go.RowKit
set_option linter.unusedSimpArgs false
set_option linter.unusedVariables false

structure R3 (q B : Nat) (w w' : World) : Prop where
  os : w'.os = w.os
  tape : w'.tape = w.tape
  output : w'.output = w.output
  size : w.heap.size ≤ w'.heap.size
  low : ∀ b, b < w.heap.size → b < B → w'.heap[b]? = w.heap[b]?
  row : ∀ (b : Nat) (cs : Array Value) (t : TypeId), w.heap[b]? = some (Obj.cells cs t (0, 0)) → ∃ cs' : Array Value, w'.heap[b]? = some (Obj.cells cs' t (0, 0)) ∧ cs'.size = cs.size ∧ ∀ j, j < q → cs'[j]? = cs[j]?
theorem R3.below {q B : Nat} {w w' : World} (h : Below w.heap.size w w') : R3 q B w w' :=
  ⟨h.os, h.tape, h.output, h.size, fun b hb _ => h.block b hb, fun b cs t hc => ⟨cs, by rw [h.block b (Array.getElem?_eq_some_iff.1 hc).1]; exact hc, rfl, fun _ _ => rfl⟩⟩
theorem R3.trans {q B : Nat} {w w1 w2 : World} (h : R3 q B w w1) (k : R3 q B w1 w2) : R3 q B w w2 :=
  ⟨k.os.trans h.os, k.tape.trans h.tape, k.output.trans h.output, Nat.le_trans h.size k.size, fun b hb hB => (k.low b (Nat.lt_of_lt_of_le hb h.size) hB).trans (h.low b hb hB), fun b cs t hc => by
    obtain ⟨c1, h1, h2, h3⟩ := h.row b cs t hc
    obtain ⟨c2, k1, k2, k3⟩ := k.row b c1 t h1
    exact ⟨c2, k1, k2.trans h2, fun j hj => (k3 j hj).trans (h3 j hj)⟩⟩
theorem R3.bel {q B : Nat} {w w' : World} (h : R3 q B w w') (hB : w.heap.size ≤ B) : Below w.heap.size w w' :=
  ⟨h.os, h.tape, h.output, h.size, fun b hb => h.low b hb (Nat.lt_of_lt_of_le hb hB)⟩
theorem R3.own {q B base size n c : Nat} {e : TypeId} {w w' : World} {A : Option Addr} {cs : List Value} (h : R3 q B w w') (o : Own base e size w A n c cs) (hq : n * size ≤ q) : Own base e size w' A n c cs := by
  obtain ⟨o1, o2⟩ := o
  refine ⟨o1, ?_⟩
  rcases o2 with o2 | ⟨g, cap, cur, hv, hb, hg, hle, hm, hs, ht⟩
  · exact .inl o2
  · obtain ⟨c1, h1, h2, h3⟩ := h.row g cur e hg
    refine .inr ⟨g, cap, c1, hv, hb, h1, hle, hm, by rw [h2, hs], ?_⟩
    rw [← ht]
    apply List.ext_getElem?
    intro j
    rw [List.getElem?_take, List.getElem?_take]
    split
    · simpa using h3 j (by omega)
    · rfl
theorem R3.setRow {q B g n size : Nat} {e : TypeId} {w : World} {cur : Array Value} {news : List Value} (hg : w.heap[g]? = some (.cells cur e (0, 0))) (hB : B ≤ g) (hq : q ≤ n * size) (hfit : n * size + news.length ≤ cur.size) :
    R3 q B w (w.setRow g (splice cur.toList (n * size) news).toArray) :=
  ⟨rfl, rfl, rfl, by simp [World.setRow], fun b hb hlt => setRow_other w g b _ (by omega), fun b cs t hc => by
    by_cases hbg : b = g
    · subst hbg
      rw [hg] at hc
      cases hc
      refine ⟨_, setRow_heap w b cur _ e (0, 0) hg, by rw [List.size_toArray, length_splice _ _ _ (by simpa using hfit)]; simp, fun j hj => ?_⟩
      unfold splice
      rw [List.getElem?_toArray, List.getElem?_append_left (by rw [List.length_take]; simp only [Array.length_toList]; omega), List.getElem?_take, if_pos (by omega)]
      simp
    · exact ⟨cs, by rw [setRow_other w g b _ hbg]; exact hc, rfl, fun _ _ => rfl⟩⟩

/-- append where there is room -/
theorem run_app_room {P : Program} (w : World) (t ty e : TypeId) (i : TypeInfo) (size : Nat) (ht : P.underlying t = some (.slice e)) (hi : P.info? e = some i) (hs : i.size = size) (g n c : Nat) (cur : Array Value) (te : TypeId) (hg : w.heap[g]? = some (.cells cur te (0, 0)))
    (B : Addr) (m c' : Nat) (news : List Value) (hl : news.length = m * size) (hB : ∀ j u, news[j]? = some u → w.cell? (B.add j) = some u) (h1 : ∀ u ∈ news, u.oneCell' = true) (hroom : n + m ≤ c) (hfit : cur.size = c * size) :
    (Builtin.append_ #[t, t] ty #[.slice (some ⟨g, 0, none⟩) n c, .slice (some B) m c']).run P w = .ok (.slice (some ⟨g, 0, none⟩) (n + m) c) (w.setRow g (splice cur.toList (n * size) news).toArray) := by
  subst hs
  have hld := run_loadCells_list (P := P) w B news hB
  have hle : n * i.size + m * i.size ≤ c * i.size := by rw [← Nat.add_mul]; exact Nat.mul_le_mul_right _ hroom
  have hst := run_storeCells_at P g (n * i.size) te news 0 cur w hg (by simp only [Nat.add_zero]; omega) h1
  have ha : (⟨g, 0, none⟩ : Addr).add (n * i.size) = ⟨g, n * i.size, none⟩ := by unfold Addr.add; split <;> simp_all
  simp only [Nat.add_zero] at hst
  simp [Builtin.append_, run_underlying ht, sizeOf, typeInfo, hi, Builtin.lenOf, Builtin.firstCells, ← hl, hld, ha, hst, hroom, splice]
/-- append, room or not, where rows made here may be written behind their first cells -/
theorem run_app3 {P : Program} (w : World) (q Bs : Nat) (t ty e : TypeId) (z : Value) (size bytes : Nat) (ht : P.underlying t = some (.slice e))
    (hinfo : (P.info? e).map (fun i => (i.zero, i.size, i.bytes)) = some (some z, size, bytes)) (hzs : z.cells.size = size) (hsz : 0 < size)
    (A : Option Addr) (n c : Nat) (xs : List Value) (ho : Own Bs e size w A n c xs) (hq : q ≤ n * size ∨ c = 0)
    (B : Option Addr) (m c' : Nat) (news : List Value) (hsl : Sl w size B m c' news) (h1 : ∀ u ∈ news, u.oneCell' = true)
    (h63 : n + m ≤ maxLen) (hbytes : (n + m) * bytes ≤ 140737488355328) (hbase : Bs ≤ w.heap.size) :
    ∃ A' d w', (Builtin.append_ #[t, t] ty #[.slice A n c, .slice B m c']).run P w = .ok (.slice A' (n + m) d) w' ∧ Own Bs e size w' A' (n + m) d (xs ++ news) ∧ R3 q Bs w w' := by
  obtain ⟨i, hi, hz, hs, hb⟩ := info_parts hinfo
  cases B with
  | none =>
    obtain ⟨rfl, rfl⟩ := hsl.none rfl
    have hn : news = [] := List.eq_nil_of_length_eq_zero (by simpa using hsl.len)
    subst hn
    have hrun := run_append_owned_none (P := P) (w := w) Bs t ty e i size ht hi _ n xs ho
    exact ⟨A, c, w, hrun, by rw [List.append_nil]; exact ho, R3.below (Below.refl _ _)⟩
  | some b =>
    have hcell : ∀ j u, news[j]? = some u → w.cell? (b.add j) = some u := fun j u hj => by obtain ⟨ad, e, h⟩ := hsl.cells j u hj; cases e; exact h
    by_cases hroom : n + m ≤ c
    · have ho' := ho
      rcases ho.2 with ⟨hv, h0⟩ | ⟨g, cap, cur, hv, hbg, hg, hle, hm, hcs, htk⟩
      · simp only [Value.slice.injEq] at hv
        obtain ⟨rfl, _, rfl⟩ := hv
        subst h0
        obtain rfl : m = 0 := by omega
        have hn : news = [] := List.eq_nil_of_length_eq_zero (by simpa using hsl.len)
        have hx : xs = [] := List.eq_nil_of_length_eq_zero (by simpa using ho.1)
        subst hn
        subst hx
        refine ⟨none, 0, w, ?_, ho, R3.below (Below.refl _ _)⟩
        simp [Builtin.append_, run_underlying ht, sizeOf, typeInfo, hi, Builtin.lenOf, Builtin.firstCells]
        have hl0 : (loadCells b 0).run P w = .ok #[] w := by simpa using run_loadCells_list (P := P) w b [] (by simp)
        simp [hl0]
      · simp only [Value.slice.injEq] at hv
        obtain ⟨rfl, _, rfl⟩ := hv
        have hfit : n * size + news.length ≤ cur.size := by rw [hsl.len, hcs, ← Nat.add_mul]; exact Nat.mul_le_mul_right _ hroom
        refine ⟨_, _, _, run_app_room (P := P) w t ty e i size ht hi hs g n c cur e hg b m c' news hsl.len hcell h1 hroom hcs, ⟨by rw [List.length_append, ho.1, hsl.len, Nat.add_mul], .inr ⟨g, c, _, rfl, hbg, setRow_heap w g cur _ e (0, 0) hg, hroom, hm, by rw [List.size_toArray, length_splice _ _ _ (by simpa using hfit)]; simpa using hcs, ?_⟩⟩, ?_⟩
        · show (splice cur.toList (n * size) news).take ((n + m) * size) = _
          unfold splice
          rw [htk, ← List.append_assoc, List.take_append_of_le_length (by rw [List.length_append, ho.1, hsl.len, Nat.add_mul]; omega), List.take_of_length_le (by rw [List.length_append, ho.1, hsl.len, Nat.add_mul]; omega)]
        · rcases hq with hq | hq
          · exact R3.setRow hg hbg hq hfit
          · subst hq
            obtain rfl : n = 0 := by omega
            obtain rfl : m = 0 := by omega
            have hn : news = [] := List.eq_nil_of_length_eq_zero (by simpa using hsl.len)
            subst hn
            have he : (splice cur.toList (0 * size) []).toArray = cur := by simp [splice]
            rw [he, setRow_self w g cur e (0, 0) hg]
            exact R3.below (Below.refl _ _)
    · cases A with
      | none =>
        have hA : n = 0 ∧ c = 0 := ho.sl.none rfl
        obtain ⟨rfl, rfl⟩ := hA
        obtain ⟨v', w', hrun, h2, h3, h4, h5⟩ := run_append_own_at (P := P) w Bs t ty e i z size bytes ht hi hz hs hb hzs hsz (.slice none 0 0) 0 xs ho b m c' news hsl.len hcell h1 h63 hbytes hbase
        have hv : ∃ A' d, v' = .slice A' (0 + m) d := by
          rcases h2.2 with ⟨rfl, h0⟩ | ⟨g, cap, cur, rfl, _⟩
          · exact ⟨none, 0, by rw [h0]⟩
          · exact ⟨_, _, rfl⟩
        obtain ⟨A', d, rfl⟩ := hv
        exact ⟨A', d, w', hrun, h2, R3.below (grownBy_below h3)⟩
      | some a =>
        obtain ⟨v', w', hrun, r1, r2⟩ := run_append_arg_grows (P := P) w t ty e i z size bytes ht hi hz hs hb hzs hsz a n c xs ho.1
          (fun j u hj => by obtain ⟨ad, e, h⟩ := ho.sl.cells j u hj; cases e; exact h) b m c' news hsl.len hcell (by omega) h63 hbytes
        have hv : ∃ A' d, v' = .slice A' (n + m) d := by
          rcases r1.2 with ⟨rfl, h0⟩ | ⟨g, cap, cur, rfl, _⟩
          · exact ⟨none, 0, by rw [h0]⟩
          · exact ⟨_, _, rfl⟩
        obtain ⟨A', d, rfl⟩ := hv
        exact ⟨A', d, w', hrun, Own.lower r1 hbase, R3.below (grownBy_below r2)⟩

/-- append to an empty row that has no room: new memory alone -/
theorem run_app0 {P : Program} (w : World) (Bs : Nat) (t ty e : TypeId) (z : Value) (size bytes : Nat) (ht : P.underlying t = some (.slice e))
    (hinfo : (P.info? e).map (fun i => (i.zero, i.size, i.bytes)) = some (some z, size, bytes)) (hzs : z.cells.size = size) (hsz : 0 < size)
    (a : Addr) (ho : Own Bs e size w (some a) 0 0 [])
    (B : Option Addr) (m c' : Nat) (news : List Value) (hsl : Sl w size B m c' news) (h1 : ∀ u ∈ news, u.oneCell' = true)
    (h63 : m ≤ maxLen) (hbytes : m * bytes ≤ 140737488355328) (hbase : Bs ≤ w.heap.size) :
    ∃ A' d w', (Builtin.append_ #[t, t] ty #[.slice (some a) 0 0, .slice B m c']).run P w = .ok (.slice A' m d) w' ∧ Own Bs e size w' A' m d news ∧ Below w.heap.size w w' ∧ (m = 0 → d = 0) := by
  obtain ⟨i, hi, hz, hs, hb⟩ := info_parts hinfo
  by_cases hm : m = 0
  · subst hm
    have hn : news = [] := List.eq_nil_of_length_eq_zero (by simpa using hsl.len)
    subst hn
    exact ⟨some a, 0, w, run_append_zero w t ty e i ht hi a 0 0 (Nat.le_refl _) B c', ho, Below.refl _ _, fun _ => rfl⟩
  · cases B with
    | none => exact absurd (hsl.none rfl).1 hm
    | some b =>
      have hcell : ∀ j u, news[j]? = some u → w.cell? (b.add j) = some u := fun j u hj => by obtain ⟨ad, e, h⟩ := hsl.cells j u hj; cases e; exact h
      obtain ⟨v', w', hrun, r1, r2⟩ := run_append_arg_grows (P := P) w t ty e i z size bytes ht hi hz hs hb hzs hsz a 0 0 [] (by simp)
        (fun j u hj => by simp at hj) b m c' news hsl.len hcell (by omega) (by rw [Nat.zero_add]; exact h63) (by rw [Nat.zero_add]; exact hbytes)
      have hv : ∃ A' d, v' = .slice A' m d := by
        rcases r1.2 with ⟨rfl, h0⟩ | ⟨g, cap, cur, rfl, _⟩
        · exact ⟨none, 0, by simp at h0; rw [h0]⟩
        · exact ⟨_, _, by rw [Nat.zero_add]⟩
      obtain ⟨A', d, rfl⟩ := hv
      have r3 : w'.ownsRow w.heap.size e size (.slice A' m d) m news := by simpa using r1
      exact ⟨A', d, w', hrun, Own.lower r3 hbase, grownBy_below r2, fun h => absurd h hm⟩
theorem stepOK_app {P : Program} {ops : Array Oper} {T : Value → World → Prop} {o : Oper} {a : Act} {w w' : World} {v u v' : Value} (hgd : o.guard = none) (s x : Operand) (t : TypeId)
    (ho : o.op = .call { callee := .builtin .append, args := #[s, x], argTypes := #[t, t] }) (hs : a.eval s = v) (hx : a.eval x = u) (hr : (Builtin.append_ #[t, t] o.type #[v, u]).run P w = .ok v' w') (hb : Below w.heap.size w w') (hT : T v' w') : StepOK P ops T o a w := by
  unfold StepOK
  rw [if_pos (by simp [Region.wanted, hgd])]
  simp only [execOp, ho, resolve, invoke, builtin, Sem.run_bind, Sem.run_pure, Result.andThen_ok, List.map_toArray, List.map_cons, List.map_nil, hs, hx, hr, upS]
  exact ⟨hb, hT⟩
theorem stepE_app {P : Program} {ops : Array Oper} {R : World → World → Prop} {J : Value → World → Prop} {o : Oper} {a : Act} {w w' : World} {v u v' : Value} (hgd : o.guard = none) (s x : Operand) (t : TypeId)
    (ho : o.op = .call { callee := .builtin .append, args := #[s, x], argTypes := #[t, t] }) (hs : a.eval s = v) (hx : a.eval x = u) (hr : (Builtin.append_ #[t, t] o.type #[v, u]).run P w = .ok v' w') (hR : R w w') (hJ : J v' w') : StepE P ops R J o a w := by
  unfold StepE
  rw [if_pos (by simp [Region.wanted, hgd])]
  simp only [execOp, ho, resolve, invoke, builtin, Sem.run_bind, Sem.run_pure, Result.andThen_ok, List.map_toArray, List.map_cons, List.map_nil, hs, hx, hr, upE]
  exact ⟨hR, hJ⟩

def isZ (B : Nat) (e : TypeId) (size : Nat) : Value → World → Prop := fun v w => ∃ b, v = .slice (some ⟨b, 0, none⟩) 0 0 ∧ Own B e size w (some ⟨b, 0, none⟩) 0 0 []
theorem isZ_elim {B size : Nat} {e : TypeId} {v : Value} {w : World} (h : isZ B e size v w) : ∃ b, v = .slice (some ⟨b, 0, none⟩) 0 0 ∧ Own B e size w (some ⟨b, 0, none⟩) 0 0 [] := h
theorem isZ_st (q B : Nat) (e : TypeId) (size : Nat) : StableR (R3 q B) (isZ B e size) := fun _ _ _ hr ⟨b, h1, h2⟩ => ⟨b, h1, hr.own h2 (by omega)⟩
def isP (B : Nat) (e : TypeId) (size p : Nat) (F : List Value) : Value → World → Prop := fun v w => ∃ A c, v = .slice A p c ∧ Own B e size w A p c F ∧ (p = 0 → c = 0)
theorem isP_elim {B size p : Nat} {e : TypeId} {F : List Value} {v : Value} {w : World} (h : isP B e size p F v w) : ∃ A c, v = .slice A p c ∧ Own B e size w A p c F ∧ (p = 0 → c = 0) := h
theorem isP_st (q B : Nat) (e : TypeId) (size p : Nat) (F : List Value) (h : p * size ≤ q) : StableR (R3 q B) (isP B e size p F) := fun _ _ _ hr ⟨A, c, h1, h2, h3⟩ => ⟨A, c, h1, hr.own h2 h, h3⟩
def isX (B : Nat) (e : TypeId) (size : Nat) (X : List Value) : Value → World → Prop := fun v w => ∃ b, v = .slice (some ⟨b, 0, none⟩) 1 1 ∧ Own B e size w (some ⟨b, 0, none⟩) 1 1 X
theorem isX_elim {B size : Nat} {e : TypeId} {X : List Value} {v : Value} {w : World} (h : isX B e size X v w) : ∃ b, v = .slice (some ⟨b, 0, none⟩) 1 1 ∧ Own B e size w (some ⟨b, 0, none⟩) 1 1 X := h
theorem isX_st (q B : Nat) (e : TypeId) (size : Nat) (X : List Value) (h : size ≤ q) : StableR (R3 q B) (isX B e size X) := fun _ _ _ hr ⟨b, h1, h2⟩ => ⟨b, h1, hr.own h2 (by omega)⟩
def isJ (B : Nat) (e : TypeId) (size n : Nat) (F : List Value) : Value → World → Prop := fun v w => ∃ A c, v = .slice A n c ∧ Own B e size w A n c F
theorem isJ_st (B : Nat) (e : TypeId) (size n : Nat) (F : List Value) : Stable (isJ B e size n F) := fun _ _ _ hb ⟨A, c, h1, h2⟩ => ⟨A, c, h1, Own.below h2 hb⟩
end Go.Proofs.Ytcidifmikcnkcaa
