import Derived.Test.YtcidifmikcnkcaaRowsG
import Derived.Test.YtcidifmikcnkcaaPureRing
/- Ops that came in; rows beside the rings. -/
namespace Go.Proofs.Ytcidifmikcnkcaa
open Go.RowKit Go.ChangeShapes Go.WideShapes
set_option linter.unusedSimpArgs false
set_option linter.unusedVariables false

structure Opn where
  K : Int
  N : Int
  S : Nm
def opC (o : Opn) : List Value := [.int .i64 o.K, .int .i64 o.N, .string (bstr o.S)]
def flatO (l : List Opn) : List Value := l.flatMap opC
def OkO (l : List Opn) : Prop := ∀ o, o ∈ l → o.S.length ≤ maxLen ∧ (-9223372036854775808 ≤ o.N ∧ o.N ≤ 9223372036854775807)
theorem slO_len {w : World} {A : Option Addr} {m d : Nat} {l : List Opn} (h : Sl w 3 A m d (flatO l)) : l.length = m := by have := h.len; unfold flatO at this; rw [flatMap_len opC 3 (fun _ => rfl)] at this; omega
theorem slO_addr {w : World} {A : Option Addr} {m d : Nat} {ts : List Opn} (h : Sl w 3 A m d (flatO ts)) {k : Nat} {t : Opn} (hk : ts[k]? = some t) : ∃ ad, A = some ad := by
  obtain ⟨ad, h1, _⟩ := h.cells (k * 3 + 0) _ (flatMap_get opC 3 (fun _ => rfl) hk (j := 0) rfl)
  exact ⟨ad, h1⟩
theorem slO_three {w : World} {ad : Addr} {m d : Nat} {ts : List Opn} (h : Sl w 3 (some ad) m d (flatO ts)) {k : Nat} {t : Opn} (hk : ts[k]? = some t) :
    w.cell? (ad.add (k * 3)) = some (.int .i64 t.K) ∧ w.cell? { block := (ad.add (k * 3)).block, off := (ad.add (k * 3)).off + 1, spot := none } = some (.int .i64 t.N) ∧ w.cell? { block := (ad.add (k * 3)).block, off := (ad.add (k * 3)).off + 2, spot := none } = some (.string (bstr t.S)) := by
  have key : ∀ j u, (opC t)[j]? = some u → w.cell? ((ad.add (k * 3)).add j) = some u := by
    intro j u hj
    obtain ⟨a, h1, h2⟩ := h.cells (k * 3 + j) u (flatMap_get opC 3 (fun _ => rfl) hk hj)
    cases h1
    rwa [addr_add_add]
  exact ⟨key 0 _ rfl, key 1 _ rfl, key 2 _ rfl⟩
theorem list3g {α : Type} (l : List α) (h : l.length = 3) : ∃ a b c, l = [a, b, c] := by
  match l, h with
  | [a, b, c], _ => exact ⟨a, b, c, rfl⟩
set_option maxRecDepth 100000 in
theorem op_cells {H : Type} {enc : TypeId × Value → H} {W : World} {fuel : Nat} {cs : List Value} {x : DataW H × List MemPlace}
    (hl : cs.length = 3) (h : DataW.trod enc Try.prog W 0 (fun _ => true) true fuel 43 cs = some x) : ∃ e : Opn, OkO [e] ∧ cs = opC e := by
  obtain ⟨c0, c1, c2, rfl⟩ := list3g cs hl
  obtain ⟨xs, n, _, _, _, hxl, hf⟩ := DataW.trod_struct Try.underlying43 h
  obtain ⟨y0, y1, y2, rfl⟩ := list3g xs (by simpa using hxl)
  have k0 : DataW.trod enc Try.prog W 0 (fun _ => true) true n 3 ((([c0, c1, c2] : List Value).drop 0).take (Try.prog.cellsOf 3)) = some y0 := hf 0 _ rfl
  rw [show Try.prog.cellsOf 3 = 1 by kernel_rfl] at k0
  simp only [List.drop, List.take] at k0
  have k1 : DataW.trod enc Try.prog W 0 (fun _ => true) true n 3 ((([c0, c1, c2] : List Value).drop 1).take (Try.prog.cellsOf 3)) = some y1 := hf 1 _ rfl
  rw [show Try.prog.cellsOf 3 = 1 by kernel_rfl] at k1
  simp only [List.drop, List.take] at k1
  have k2 : DataW.trod enc Try.prog W 0 (fun _ => true) true n 9 ((([c0, c1, c2] : List Value).drop 2).take (Try.prog.cellsOf 9)) = some y2 := hf 2 _ rfl
  rw [show Try.prog.cellsOf 9 = 1 by kernel_rfl] at k2
  simp only [List.drop, List.take] at k2
  obtain ⟨x0, e0, _, w0⟩ := DataW.trod_int Try.underlying3 k0
  obtain ⟨x1, e1, _, w1⟩ := DataW.trod_int Try.underlying3 k1
  obtain ⟨x2, e2, _, w2⟩ := DataW.trod_string Try.underlying9 k2
  simp only [List.cons.injEq, and_true] at e0 e1 e2
  subst e0 e1 e2
  refine ⟨⟨x0, x1, x2.data.toList⟩, fun y hy => ?_, by unfold opC; rw [← bstr_of x2]⟩
  rw [List.mem_singleton] at hy
  subst hy
  exact ⟨w2, int_range w1⟩
theorem ops_open {H : Type} {enc : TypeId × Value → H} {w : World} {fuel : Nat} {v : Value} {x : DataW H × List MemPlace}
    (h : DataW.trod enc Try.prog w 0 (fun _ => true) true fuel 36 [v] = some x) : ∃ a n c, v = .slice a n c ∧ n ≤ 9223372036854775807 ∧ c ≤ 9223372036854775807 ∧ ∃ es : List Opn, OkO es ∧ Sl w 3 a n c (flatO es) := by
  have : Inhabited Opn := ⟨⟨0, 0, []⟩⟩
  obtain ⟨a, n, c, h1, h2, h3, es, h4, h5⟩ := rows_open 36 43 3 (by omega) Try.underlying36 (by kernel_rfl) opC (fun _ => rfl) (fun e => OkO [e]) (fun hl h => op_cells hl h) h
  exact ⟨a, n, c, h1, h2, h3, es, fun y hy => h4 y hy y (List.mem_singleton.2 rfl), h5⟩

/-- a row that is none of the rings' -/
def FreeA (lab : Nat → Option Lab) (A : Option Addr) (w : World) : Prop := ∀ a, A = some a → lab a.block = none ∧ a.block < w.heap.size
theorem FreeA.none (lab : Nat → Option Lab) (w : World) : FreeA lab none w := fun a h => by cases h
theorem FreeA.size {lab : Nat → Option Lab} {A : Option Addr} {w w' : World} (h : FreeA lab A w) (hs : w.heap.size ≤ w'.heap.size) : FreeA lab A w' := fun a ha => ⟨(h a ha).1, Nat.lt_of_lt_of_le (h a ha).2 hs⟩
theorem FreeA.chg {lab lab' : Nat → Option Lab} {A : Option Addr} {w w' : World} (h : FreeA lab A w) (hc : Chg lab lab' w w') : FreeA lab' A w' :=
  fun a ha => ⟨hc.none (h a ha).2 (h a ha).1, Nat.lt_of_lt_of_le (h a ha).2 hc.size⟩
theorem App.same {base size n c : Nat} {e : TypeId} {w w' : World} {A : Option Addr} {cs : List Value} (h : App base e size w A n c cs) (hk : ∀ a, A = some a → w'.heap[a.block]? = w.heap[a.block]?) : App base e size w' A n c cs := by
  rcases h with h | ⟨h, hc⟩
  · exact .inl (own_same h hk)
  · refine .inr ⟨⟨?_, h.len, h.le, h.none⟩, hc⟩
    intro j u hj
    obtain ⟨a, h1, h2⟩ := h.cells j u hj
    refine ⟨a, h1, ?_⟩
    rw [← h2]
    have := hk a h1
    simp only [World.cell?, add_block]
    rw [this]
theorem App.chg {base size n c : Nat} {e : TypeId} {lab lab' : Nat → Option Lab} {w w' : World} {A : Option Addr} {cs : List Value} (h : App base e size w A n c cs) (hc : Chg lab lab' w w') (hf : FreeA lab A w) : App base e size w' A n c cs :=
  h.same (fun a ha => hc.block _ (hf a ha).2 (hf a ha).1)
theorem Own.chg {base size n c : Nat} {e : TypeId} {lab lab' : Nat → Option Lab} {w w' : World} {A : Option Addr} {cs : List Value} (h : Own base e size w A n c cs) (hc : Chg lab lab' w w') (hf : FreeA lab A w) : Own base e size w' A n c cs :=
  own_same h (fun a ha => hc.block _ (hf a ha).2 (hf a ha).1)
theorem RIl.appended {w w' : World} {base p B : Nat} {most : Int} {qs : List (Nm × Qu)} {lab : Nat → Option Lab} {A : Option Addr} (h : RIl w base p most qs lab) (hg : w.grownBy w' (rowOf B A)) (hf : FreeA lab A w) : RIl w' base p most qs lab := by
  cases hr : rowOf B A with
  | none => rw [hr] at hg; exact h.below (grownBy_below hg)
  | some g =>
    rw [hr] at hg
    refine h.grown hg ?_
    cases A with
    | none => simp [rowOf] at hr
    | some a =>
      simp only [rowOf, Option.bind_some] at hr
      split at hr
      · cases hr; exact (hf a rfl).1
      · cases hr
theorem FreeA.frm {w w' : World} {base p : Nat} {most : Int} {qs : List (Nm × Qu)} {lab : Nat → Option Lab} {A A' : Option Addr} (hf : FreeA lab A w) (h : RIl w base p most qs lab) (hl : From w A A') (hs : w.heap.size ≤ w'.heap.size) (hlt : ∀ a, A' = some a → a.block < w'.heap.size) : FreeA lab A' w' := by
  intro a ha
  refine ⟨?_, hlt a ha⟩
  rcases hl a ha with ⟨a0, h0, e0⟩ | h1
  · rw [← e0]; exact (hf a0 h0).1
  · exact h.labN h1
theorem App.lts {base size n c : Nat} {e : TypeId} {w : World} {A : Option Addr} {cs : List Value} (h : App base e size w A n c cs) (hn : cs ≠ []) : ∀ a, A = some a → a.block < w.heap.size := by
  intro a ha
  subst ha
  cases cs with
  | nil => exact absurd rfl hn
  | cons u r =>
    obtain ⟨a', h1, h2⟩ := h.sl.cells 0 u rfl
    cases h1
    have := World.block_lt_of_cell? _ _ h2
    simpa [Addr.add] using this
end Go.Proofs.Ytcidifmikcnkcaa
