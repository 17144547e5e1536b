import Derived.WalkKit
import Derived.ProofKit
import Derived.OpenShut
import Derived.ShutString
import Derived.ChangeOld
import Derived.Test.YtphjmbhlokkdiaaLawAlone
import Derived.Deep.Slices
namespace Go.Proofs.Ytphjmbhlokkdiaa
open Go.RowKit Go.ChangeShapes Go.WideShapes

theorem list3 {α : Type} (l : List α) (h : l.length = 3) : ∃ a b c, l = [a, b, c] := by
  match l, h with
  | [a, b, c], _ => exact ⟨a, b, c, rfl⟩
theorem list4' {α : Type} (l : List α) (h : l.length = 4) : ∃ a b c d, l = [a, b, c, d] := by
  match l, h with
  | [a, b, c, d], _ => exact ⟨a, b, c, d, rfl⟩
set_option maxRecDepth 100000 in
/-- a turn's cells that came in -/
theorem tn_cells {H : Type} {enc : TypeId × Value → H} {W : World} {fuel : Nat} {cs : List Value} {x : DataW H × List MemPlace}
    (hl : cs.length = 3) (h : DataW.trod enc Try.prog W 0 (fun _ => true) true fuel 51 cs = some x) : ∃ e : Tn, cs = e.cells := by
  obtain ⟨c0, c1, c2, rfl⟩ := list3 cs hl
  obtain ⟨xs, n, _, _, _, hxl, hf⟩ := DataW.trod_struct Try.underlying51 h
  obtain ⟨y0, y1, y2, rfl⟩ := list3 xs (by simpa using hxl)
  have k0 : DataW.trod enc Try.prog W 0 (fun _ => true) true n 9 ((([c0, c1, c2] : List Value).drop 0).take (Try.prog.cellsOf 9)) = some y0 := hf 0 _ rfl
  rw [show Try.prog.cellsOf 9 = 1 by kernel_rfl] at k0
  simp only [List.drop, List.take] at k0
  have k1 : DataW.trod enc Try.prog W 0 (fun _ => true) true n 3 ((([c0, c1, c2] : List Value).drop 1).take (Try.prog.cellsOf 3)) = some y1 := hf 1 _ rfl
  rw [show Try.prog.cellsOf 3 = 1 by kernel_rfl] at k1
  simp only [List.drop, List.take] at k1
  have k2 : DataW.trod enc Try.prog W 0 (fun _ => true) true n 2 ((([c0, c1, c2] : List Value).drop 2).take (Try.prog.cellsOf 2)) = some y2 := hf 2 _ rfl
  rw [show Try.prog.cellsOf 2 = 1 by kernel_rfl] at k2
  simp only [List.drop, List.take] at k2
  obtain ⟨x0, e0, _, w0⟩ := DataW.trod_string Try.underlying9 k0
  obtain ⟨x1, e1, _, w1⟩ := DataW.trod_int Try.underlying3 k1
  obtain ⟨x2, e2, _, w2⟩ := DataW.trod_int Try.underlying2 k2
  simp only [List.cons.injEq, and_true] at e0
  simp only [List.cons.injEq, and_true] at e1
  simp only [List.cons.injEq, and_true] at e2
  subst e0 e1 e2
  refine ⟨⟨x0.data.toList, x1, x2⟩, ?_⟩
  unfold Tn.cells
  rw [← bstr_of x0]
theorem flatT_inv (es : List Tn) (j : Nat) (u : Value) (h : (flatT es)[j]? = some u) : ∃ e, es[j / 3]? = some e ∧ e.cells[j % 3]? = some u := by
  have hj := (List.getElem?_eq_some_iff.1 h).1
  rw [flatT_len] at hj
  obtain ⟨e, he⟩ := get_some es (j / 3) (by omega)
  obtain ⟨v, hv⟩ := get_some e.cells (j % 3) (by show j % 3 < 3; omega)
  have h2 := flatT_at es (j / 3) (j % 3) e v he hv
  rw [show j / 3 * 3 + j % 3 = j by omega, h] at h2
  exact ⟨e, he, by rw [hv, ← h2]⟩
/-- turns in a slice that came in -/
theorem ts_open {H : Type} {enc : TypeId × Value → H} {w : World} {fuel : Nat} {v : Value} {x : DataW H × List MemPlace}
    (h : DataW.trod enc Try.prog w 0 (fun _ => true) true fuel 34 [v] = some x) : ∃ a n c, v = .slice a n c ∧ n ≤ 9223372036854775807 ∧ ∃ es, Sl w 3 a n c (flatT es) := by
  rcases Go.Deep.open_slice Try.underlying34 h with ⟨hcs, _⟩ | ⟨ad, len, cap, m, nf, D, Pl, hcs, _, hl, hm, hmm, _, hx⟩
  · simp only [List.cons.injEq, and_true] at hcs
    exact ⟨none, 0, 0, hcs, Nat.zero_le _, [], Sl.nil w 3⟩
  · simp only [List.cons.injEq, and_true] at hcs
    refine ⟨some ad, len, cap, hcs, by unfold maxLen at hm; omega, ?_⟩
    rw [show Try.prog.cellsOf 51 = 3 by kernel_rfl] at hx
    simp only [if_true] at hmm
    have each : ∀ i, i < len → ∃ e : Tn, ∀ j u, e.cells[j]? = some u → w.cell? (ad.add (i * 3 + j)) = some u := by
      intro i hi
      obtain ⟨cs', h1, h2⟩ := hx i (by omega)
      obtain ⟨_, hlen, hat⟩ := World.cells?_some h1
      obtain ⟨e, rfl⟩ := tn_cells hlen h2
      refine ⟨e, fun j u hj => ?_⟩
      have hjl : j < 3 := (List.getElem?_eq_some_iff.1 hj).1
      rw [← addr_add_add, hat j hjl, hj]
    have : Inhabited Tn := ⟨⟨[], 0, 0⟩⟩
    obtain ⟨y, hy⟩ := Go.Deep.choose_lt each
    refine ⟨(List.range len).map y, ⟨fun j u hj => ⟨ad, rfl, ?_⟩, by rw [flatT_len]; simp, hl, fun h => by cases h⟩⟩
    obtain ⟨e, he, hu⟩ := flatT_inv _ j u hj
    rw [List.getElem?_map] at he
    by_cases hjn : j / 3 < len
    · rw [List.getElem?_range hjn] at he
      simp only [Option.map_some, Option.some.injEq] at he
      subst he
      have := hy (j / 3) hjn (j % 3) u hu
      rwa [show j / 3 * 3 + j % 3 = j by omega] at this
    · rw [List.getElem?_eq_none (by simp; omega)] at he; simp at he
set_option maxRecDepth 100000 in
/-- turns that came in -/
theorem fr_open {H : Type} {enc : TypeId × Value → H} {W : World} {base fuel : Nat} {v : Value} {x : DataW H × List MemPlace}
    (hv : Value.okWide Try.prog W .any base 36 v) (h : DataW.trod enc Try.prog W 0 (fun _ => true) true fuel 36 v.cells.toList = some x) :
    ∃ (f : Fr) (A : Option Addr) (m d : Nat), v = frV f.Q A m d f.At f.H ∧ Sl W 3 A m d (flatT f.ts) ∧ m ≤ 9223372036854775807 ∧ (-9223372036854775808 ≤ f.Q ∧ f.Q ≤ 9223372036854775807) := by
  obtain ⟨cs, rfl, hsz, _⟩ : ∃ cs, v = .agg cs ∧ cs.size = Try.prog.cellsOf 36 ∧ Row.okWide Try.prog W .any base 36 cs := by
    simpa [Value.okWide, Try.underlying36] using hv
  rw [show Try.prog.cellsOf 36 = 4 by kernel_rfl] at hsz
  obtain ⟨l⟩ := cs
  obtain ⟨c0, c1, c2, c3, rfl⟩ := list4' l (by simpa using hsz)
  obtain ⟨xs, n, _, _, _, hxl, hf⟩ := DataW.trod_struct Try.underlying36 h
  obtain ⟨y0, y1, y2, y3, rfl⟩ := list4' xs (by simpa using hxl)
  have k0 : DataW.trod enc Try.prog W 0 (fun _ => true) true n 3 ((([c0, c1, c2, c3] : List Value).drop 0).take (Try.prog.cellsOf 3)) = some y0 := hf 0 _ rfl
  rw [show Try.prog.cellsOf 3 = 1 by kernel_rfl] at k0
  simp only [List.drop, List.take] at k0
  have k1 : DataW.trod enc Try.prog W 0 (fun _ => true) true n 34 ((([c0, c1, c2, c3] : List Value).drop 1).take (Try.prog.cellsOf 34)) = some y1 := hf 1 _ rfl
  rw [show Try.prog.cellsOf 34 = 1 by kernel_rfl] at k1
  simp only [List.drop, List.take] at k1
  have k2 : DataW.trod enc Try.prog W 0 (fun _ => true) true n 3 ((([c0, c1, c2, c3] : List Value).drop 2).take (Try.prog.cellsOf 3)) = some y2 := hf 2 _ rfl
  rw [show Try.prog.cellsOf 3 = 1 by kernel_rfl] at k2
  simp only [List.drop, List.take] at k2
  have k3 : DataW.trod enc Try.prog W 0 (fun _ => true) true n 4 ((([c0, c1, c2, c3] : List Value).drop 3).take (Try.prog.cellsOf 4)) = some y3 := hf 3 _ rfl
  rw [show Try.prog.cellsOf 4 = 1 by kernel_rfl] at k3
  simp only [List.drop, List.take] at k3
  obtain ⟨x0, e0, _, w0⟩ := DataW.trod_int Try.underlying3 k0
  obtain ⟨x2, e2, _, w2⟩ := DataW.trod_int Try.underlying3 k2
  obtain ⟨a, m, d, e1, hm, ts, hs⟩ := ts_open k1
  obtain ⟨b, e3, _⟩ := DataW.trod_bool Try.underlying4 k3
  simp only [List.cons.injEq, and_true] at e0
  simp only [List.cons.injEq, and_true] at e2
  simp only [List.cons.injEq, and_true] at e3
  subst e0 e1 e2 e3
  simp [Lit.wf, IntKind.min, IntKind.max, IntKind.signed, IntKind.bits] at w0
  exact ⟨⟨x0, ts, x2, b⟩, a, m, d, rfl, hs, hm, by simp only; omega⟩
end Go.Proofs.Ytphjmbhlokkdiaa
