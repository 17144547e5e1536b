import Derived.Test.YtcidifmikcnkcaaRingO
/- As RelA; a row that holds F stays, too. -/
namespace Go.Proofs.Ytcidifmikcnkcaa
open Go.RowKit
set_option linter.unusedSimpArgs false
set_option linter.unusedVariables false

structure R4 (q B N : Nat) (F : List Value) (w w' : World) : Prop where
  r : R3 q B w w'
  f : ∀ (b : Nat) (cs : Array Value) (t : TypeId), w.heap[b]? = some (Obj.cells cs t (0, 0)) → cs.toList.take N = F → ∃ cs' : Array Value, w'.heap[b]? = some (Obj.cells cs' t (0, 0)) ∧ cs'.size = cs.size ∧ cs'.toList.take N = F
section
variable {q B N : Nat} {F : List Value} {w w' : World}
theorem R4.below (h : Below w.heap.size w w') : R4 q B N F w w' := ⟨R3.below h, fun b cs t hc hf => ⟨cs, by rw [h.block b (Array.getElem?_eq_some_iff.1 hc).1]; exact hc, rfl, hf⟩⟩
theorem R4.trans {w1 w2 : World} (h : R4 q B N F w w1) (k : R4 q B N F w1 w2) : R4 q B N F w w2 :=
  ⟨h.r.trans k.r, fun b cs t hc hf => by
    obtain ⟨c1, h1, h2, h3⟩ := h.f b cs t hc hf
    obtain ⟨c2, k1, k2, k3⟩ := k.f b c1 t h1 h3
    exact ⟨c2, k1, k2.trans h2, k3⟩⟩
theorem R4.bel (h : R4 q B N F w w') (hB : w.heap.size ≤ B) : Below w.heap.size w w' := h.r.bel hB
theorem isP_st4 (e : TypeId) (size p : Nat) (G : List Value) (h : p * size ≤ q) : StableR (R4 q B N F) (isP B e size p G) := fun v w w' hr hp => isP_st q B e size p G h v w w' hr.r hp
theorem isZ_st4 (e : TypeId) (size : Nat) : StableR (R4 q B N F) (isZ B e size) := fun v w w' hr hp => isZ_st q B e size v w w' hr.r hp
def isF (B : Nat) (e : TypeId) (N : Nat) (F : List Value) : Value → World → Prop := fun v w => ∃ A c, v = .slice A N c ∧ Own B e 1 w A N c F
theorem isF_elim {e : TypeId} {v : Value} (h : isF B e N F v w) : ∃ A c, v = .slice A N c ∧ Own B e 1 w A N c F := h
theorem isF_st (e : TypeId) : StableR (R4 q B N F) (isF B e N F) := by
  intro v w w' hr ⟨A, c, h1, h2, h3⟩
  refine ⟨A, c, h1, h2, ?_⟩
  rcases h3 with h3 | ⟨g, cap, cur, hv, hb, hg, hle, hm, hs, ht⟩
  · exact .inl h3
  · obtain ⟨c1, k1, k2, k3⟩ := hr.f g cur e hg (by simpa using ht)
    exact .inr ⟨g, cap, c1, hv, hb, k1, hle, hm, by rw [k2, hs], by simpa using k3⟩
theorem isF_such {f : FuncId} {args : Array Value} {L LR : List Int} {NR : Nat} (hB : B ≤ w.heap.size) (h : Calls Try.prog f args w fun e w' => ∃ A' c', e = .returned (.slice A' L.length c') ∧ Own w.heap.size 3 1 w' A' L.length c' (intsL L) ∧ Below w.heap.size w w') (hL : L = LR) (hN : LR.length = NR) :
    Calls Try.prog f args w fun e w' => ∃ v, e = .returned v ∧ Below w.heap.size w w' ∧ isF B 3 NR (intsL LR) v w' := by
  subst hL hN
  exact h.mono fun e w' ⟨A', c', h1, h2, h3⟩ => ⟨_, h1, h3, A', c', rfl, Own.lower h2 hB⟩
theorem R4.setRow {g n size : Nat} {e : TypeId} {cur : Array Value} {news xs : List Value} (hg : w.heap[g]? = some (.cells cur e (0, 0))) (hB : B ≤ g) (hq : q ≤ n * size) (hfit : n * size + news.length ≤ cur.size) (hx : cur.toList.take (n * size) = xs) (hl : xs.length = n * size) :
    R4 q B (n * size + news.length) (xs ++ news) w (w.setRow g (splice cur.toList (n * size) news).toArray) :=
  ⟨R3.setRow hg hB hq hfit, fun b cs t hc hf => by
    by_cases hbg : b = g
    · subst hbg
      rw [hg] at hc
      cases hc
      refine ⟨_, setRow_heap w b cur _ e (0, 0) hg, by rw [List.size_toArray, length_splice _ _ _ (by simpa using hfit)]; simp, ?_⟩
      unfold splice
      rw [List.toList_toArray, hx, ← List.append_assoc]
      exact List.take_left' (by rw [List.length_append, hl])
    · exact ⟨cs, by rw [setRow_other w g b _ hbg]; exact hc, rfl, hf⟩⟩
theorem run_app4 {P : Program} (w : World) (q Bs : Nat) (t ty e : TypeId) (z : Value) (bytes : Nat) (ht : P.underlying t = some (.slice e))
    (hinfo : (P.info? e).map (fun i => (i.zero, i.size, i.bytes)) = some (some z, 1, bytes)) (hzs : z.cells.size = 1)
    (A : Option Addr) (n c : Nat) (xs : List Value) (ho : Own Bs e 1 w A n c xs) (hq : q ≤ n ∨ c = 0)
    (B : Option Addr) (m c' : Nat) (news : List Value) (hsl : Sl w 1 B m c' news) (h1 : ∀ u ∈ news, u.oneCell' = true)
    (h63 : n + m ≤ maxLen) (hbytes : (n + m) * bytes ≤ 140737488355328) (hbase : Bs ≤ w.heap.size) :
    ∃ A' d w', (Builtin.append_ #[t, t] ty #[.slice A n c, .slice B m c']).run P w = .ok (.slice A' (n + m) d) w' ∧ Own Bs e 1 w' A' (n + m) d (xs ++ news) ∧ R4 q Bs (n + m) (xs ++ news) w w' := by
  obtain ⟨i, hi, hz, hs, hb⟩ := info_parts hinfo
  have hnl : news.length = m := by simpa using hsl.len
  have hxl : xs.length = n := by simpa using ho.1
  cases B with
  | none =>
    obtain ⟨rfl, rfl⟩ := hsl.none rfl
    have hn : news = [] := List.eq_nil_of_length_eq_zero (by simpa using hsl.len)
    subst hn
    have hrun := run_append_owned_none (P := P) (w := w) Bs t ty e i 1 ht hi _ n xs ho
    exact ⟨A, c, w, hrun, by rw [List.append_nil]; exact ho, R4.below (Below.refl _ _)⟩
  | some b =>
    have hcell : ∀ j u, news[j]? = some u → w.cell? (b.add j) = some u := fun j u hj => by obtain ⟨ad, e, h⟩ := hsl.cells j u hj; cases e; exact h
    by_cases hroom : n + m ≤ c
    · rcases ho.2 with ⟨hv, h0⟩ | ⟨g, cap, cur, hv, hbg, hg, hle, hm, hcs, htk⟩
      · simp only [Value.slice.injEq] at hv
        obtain ⟨rfl, _, rfl⟩ := hv
        subst h0
        obtain rfl : m = 0 := by omega
        have hn : news = [] := List.eq_nil_of_length_eq_zero (by simpa using hsl.len)
        have hx : xs = [] := List.eq_nil_of_length_eq_zero (by simpa using ho.1)
        subst hn
        subst hx
        refine ⟨none, 0, w, ?_, ho, R4.below (Below.refl _ _)⟩
        simp [Builtin.append_, run_underlying ht, sizeOf, typeInfo, hi, Builtin.lenOf, Builtin.firstCells]
        have hl0 : (loadCells b 0).run P w = .ok #[] w := by simpa using run_loadCells_list (P := P) w b [] (by simp)
        simp [hl0]
      · simp only [Value.slice.injEq] at hv
        obtain ⟨rfl, _, rfl⟩ := hv
        have hfit : n * 1 + news.length ≤ cur.size := by omega
        refine ⟨_, _, _, run_app_room (P := P) w t ty e i 1 ht hi hs g n c cur e hg b m c' news hsl.len hcell h1 hroom hcs, ⟨by rw [List.length_append]; omega, .inr ⟨g, c, _, rfl, hbg, setRow_heap w g cur _ e (0, 0) hg, hroom, hm, by rw [List.size_toArray, length_splice _ _ _ (by simpa using hfit)]; simpa using hcs, ?_⟩⟩, ?_⟩
        · show (splice cur.toList (n * 1) news).take ((n + m) * 1) = _
          unfold splice
          rw [htk, ← List.append_assoc, List.take_append_of_le_length (by rw [List.length_append]; omega), List.take_of_length_le (by rw [List.length_append]; omega)]
        · have hq' : q ≤ n * 1 ∨ c = 0 := by omega
          rcases hq' with hq | hq
          · have := R4.setRow (q := q) (B := Bs) hg hbg hq hfit htk (by omega)
            rwa [show n * 1 + news.length = n + m by omega] at this
          · subst hq
            obtain rfl : n = 0 := by omega
            obtain rfl : m = 0 := by omega
            have hn : news = [] := List.eq_nil_of_length_eq_zero (by simpa using hsl.len)
            subst hn
            have he : (splice cur.toList (0 * 1) []).toArray = cur := by simp [splice]
            rw [he, setRow_self w g cur e (0, 0) hg]
            exact R4.below (Below.refl _ _)
    · cases A with
      | none =>
        have hA : n = 0 ∧ c = 0 := ho.sl.none rfl
        obtain ⟨rfl, rfl⟩ := hA
        obtain ⟨v', w', hrun, h2, h3, h4, h5⟩ := run_append_own_at (P := P) w Bs t ty e i z 1 bytes ht hi hz hs hb hzs (by omega) (.slice none 0 0) 0 xs ho b m c' news hsl.len hcell h1 h63 hbytes hbase
        have hv : ∃ A' d, v' = .slice A' (0 + m) d := by
          rcases h2.2 with ⟨rfl, h0⟩ | ⟨g, cap, cur, rfl, _⟩
          · exact ⟨none, 0, by rw [h0]⟩
          · exact ⟨_, _, rfl⟩
        obtain ⟨A', d, rfl⟩ := hv
        exact ⟨A', d, w', hrun, h2, R4.below (grownBy_below h3)⟩
      | some a =>
        obtain ⟨v', w', hrun, r1, r2⟩ := run_append_arg_grows (P := P) w t ty e i z 1 bytes ht hi hz hs hb hzs (by omega) a n c xs ho.1
          (fun j u hj => by obtain ⟨ad, e, h⟩ := ho.sl.cells j u hj; cases e; exact h) b m c' news hsl.len hcell (by omega) h63 hbytes
        have hv : ∃ A' d, v' = .slice A' (n + m) d := by
          rcases r1.2 with ⟨rfl, h0⟩ | ⟨g, cap, cur, rfl, _⟩
          · exact ⟨none, 0, by rw [h0]⟩
          · exact ⟨_, _, rfl⟩
        obtain ⟨A', d, rfl⟩ := hv
        exact ⟨A', d, w', hrun, Own.lower r1 hbase, R4.below (grownBy_below r2)⟩
end
end Go.Proofs.Ytcidifmikcnkcaa
