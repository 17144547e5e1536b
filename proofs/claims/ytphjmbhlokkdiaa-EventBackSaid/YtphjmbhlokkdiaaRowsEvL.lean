import Derived.Test.YtphjmbhlokkdiaaRowsEv
import Derived.Test.YtphjmbhlokkdiaaLawEvBack
import Derived.Deep.Slices
namespace Go.Proofs.Ytphjmbhlokkdiaa
open Go.RowKit Go.ChangeShapes Go.WideShapes

set_option maxRecDepth 100000 in
/-- an event's cells that came in -/
theorem ev_cells {H : Type} {enc : TypeId × Value → H} {W : World} {fuel : Nat} {cs : List Value} {x : DataW H × List MemPlace}
    (hl : cs.length = 7) (h : DataW.trod enc Try.prog W 0 (fun _ => true) true fuel 24 cs = some x) : ∃ e : Ev, e.ok ∧ cs = e.cells := by
  obtain ⟨c0, c1, c2, c3, c4, c5, c6, rfl⟩ := list7 cs hl
  obtain ⟨xs, n, _, _, _, hxl, hf⟩ := DataW.trod_struct Try.underlying24 h
  obtain ⟨y0, y1, y2, y3, y4, y5, y6, rfl⟩ := list7 xs (by simpa using hxl)
  have k0 : DataW.trod enc Try.prog W 0 (fun _ => true) true n 22 ((([c0, c1, c2, c3, c4, c5, c6] : List Value).drop 0).take (Try.prog.cellsOf 22)) = some y0 := hf 0 _ rfl
  rw [show Try.prog.cellsOf 22 = 1 by kernel_rfl] at k0
  simp only [List.drop, List.take] at k0
  have k1 : DataW.trod enc Try.prog W 0 (fun _ => true) true n 2 ((([c0, c1, c2, c3, c4, c5, c6] : List Value).drop 1).take (Try.prog.cellsOf 2)) = some y1 := hf 1 _ rfl
  rw [show Try.prog.cellsOf 2 = 1 by kernel_rfl] at k1
  simp only [List.drop, List.take] at k1
  have k2 : DataW.trod enc Try.prog W 0 (fun _ => true) true n 3 ((([c0, c1, c2, c3, c4, c5, c6] : List Value).drop 2).take (Try.prog.cellsOf 3)) = some y2 := hf 2 _ rfl
  rw [show Try.prog.cellsOf 3 = 1 by kernel_rfl] at k2
  simp only [List.drop, List.take] at k2
  have k3 : DataW.trod enc Try.prog W 0 (fun _ => true) true n 3 ((([c0, c1, c2, c3, c4, c5, c6] : List Value).drop 3).take (Try.prog.cellsOf 3)) = some y3 := hf 3 _ rfl
  rw [show Try.prog.cellsOf 3 = 1 by kernel_rfl] at k3
  simp only [List.drop, List.take] at k3
  have k4 : DataW.trod enc Try.prog W 0 (fun _ => true) true n 2 ((([c0, c1, c2, c3, c4, c5, c6] : List Value).drop 4).take (Try.prog.cellsOf 2)) = some y4 := hf 4 _ rfl
  rw [show Try.prog.cellsOf 2 = 1 by kernel_rfl] at k4
  simp only [List.drop, List.take] at k4
  have k5 : DataW.trod enc Try.prog W 0 (fun _ => true) true n 2 ((([c0, c1, c2, c3, c4, c5, c6] : List Value).drop 5).take (Try.prog.cellsOf 2)) = some y5 := hf 5 _ rfl
  rw [show Try.prog.cellsOf 2 = 1 by kernel_rfl] at k5
  simp only [List.drop, List.take] at k5
  have k6 : DataW.trod enc Try.prog W 0 (fun _ => true) true n 9 ((([c0, c1, c2, c3, c4, c5, c6] : List Value).drop 6).take (Try.prog.cellsOf 9)) = some y6 := hf 6 _ rfl
  rw [show Try.prog.cellsOf 9 = 1 by kernel_rfl] at k6
  simp only [List.drop, List.take] at k6
  obtain ⟨x0, e0, _, w0⟩ := DataW.trod_int Try.underlying22 k0
  obtain ⟨x1, e1, _, w1⟩ := DataW.trod_int Try.underlying2 k1
  obtain ⟨x2, e2, _, w2⟩ := DataW.trod_int Try.underlying3 k2
  obtain ⟨x3, e3, _, w3⟩ := DataW.trod_int Try.underlying3 k3
  obtain ⟨x4, e4, _, w4⟩ := DataW.trod_int Try.underlying2 k4
  obtain ⟨x5, e5, _, w5⟩ := DataW.trod_int Try.underlying2 k5
  obtain ⟨x6, e6, _, w6⟩ := DataW.trod_string Try.underlying9 k6
  simp only [List.cons.injEq, and_true] at e0
  simp only [List.cons.injEq, and_true] at e1
  simp only [List.cons.injEq, and_true] at e2
  simp only [List.cons.injEq, and_true] at e3
  simp only [List.cons.injEq, and_true] at e4
  simp only [List.cons.injEq, and_true] at e5
  simp only [List.cons.injEq, and_true] at e6
  subst e0 e1 e2 e3 e4 e5 e6
  simp [Lit.wf, IntKind.min, IntKind.max, IntKind.signed, IntKind.bits] at w0 w1 w2 w3 w4 w5
  obtain ⟨K, rfl⟩ := Int.eq_ofNat_of_zero_le (show 0 ≤ x0 by omega)
  refine ⟨⟨K, x1, x2, x3, x4, x5, x6.data.toList⟩, ⟨by simp only; omega, by simp only; omega, by simp only; omega, by simp only; omega, by simp only; omega, by simp only; omega⟩, ?_⟩
  unfold Ev.cells
  rw [← bstr_of x6]
theorem flat_inv (es : List Ev) (j : Nat) (u : Value) (h : (es.flatMap Ev.cells)[j]? = some u) : ∃ e, es[j / 7]? = some e ∧ e.cells[j % 7]? = some u := by
  have hj := (List.getElem?_eq_some_iff.1 h).1
  rw [flat_len] at hj
  obtain ⟨e, he⟩ := get_some es (j / 7) (by omega)
  obtain ⟨v, hv⟩ := get_some e.cells (j % 7) (by rw [cells_len]; omega)
  have h2 := flat_at es (j / 7) (j % 7) e v he hv
  rw [show j / 7 * 7 + j % 7 = j by omega, h] at h2
  exact ⟨e, he, by rw [hv, ← h2]⟩
/-- events that came in -/
theorem es_open {H : Type} {enc : TypeId × Value → H} {w : World} {fuel : Nat} {a : Option Addr} {n c : Nat} {x : DataW H × List MemPlace}
    (h : DataW.trod enc Try.prog w 0 (fun _ => true) true fuel 59 [.slice a n c] = some x) : n ≤ 9223372036854775807 ∧ ∃ es, LsE w a n c es := by
  rcases Go.Deep.open_slice Try.underlying59 h with ⟨hcs, _⟩ | ⟨ad, len, cap, m, nf, D, Pl, hcs, _, hl, hm, hmm, _, hx⟩
  · simp only [List.cons.injEq, Value.slice.injEq, and_true] at hcs
    obtain ⟨rfl, rfl, rfl⟩ := hcs
    exact ⟨Nat.zero_le _, [], Sl.nil w 7, fun q hq => by cases hq⟩
  · simp only [List.cons.injEq, Value.slice.injEq, and_true] at hcs
    obtain ⟨rfl, rfl, rfl⟩ := hcs
    rw [show Try.prog.cellsOf 24 = 7 by kernel_rfl] at hx
    simp only [if_true] at hmm
    have each : ∀ i, i < n → ∃ e : Ev, e.ok ∧ ∀ j u, e.cells[j]? = some u → w.cell? (ad.add (i * 7 + j)) = some u := by
      intro i hi
      obtain ⟨cs', h1, h2⟩ := hx i (by omega)
      obtain ⟨_, hlen, hat⟩ := World.cells?_some h1
      obtain ⟨e, hok, rfl⟩ := ev_cells hlen h2
      refine ⟨e, hok, fun j u hj => ?_⟩
      have hjl : j < 7 := (List.getElem?_eq_some_iff.1 hj).1
      rw [← addr_add_add, hat j hjl, hj]
    have : Inhabited Ev := ⟨Ev.zero⟩
    obtain ⟨y, hy⟩ := Go.Deep.choose_lt each
    refine ⟨by unfold maxLen at hm; omega, (List.range n).map y, ⟨fun j u hj => ⟨ad, rfl, ?_⟩, by rw [flat_len]; simp, hl, fun h => by cases h⟩, ?_⟩
    · obtain ⟨e, he, hu⟩ := flat_inv _ j u hj
      rw [List.getElem?_map] at he
      by_cases hjn : j / 7 < n
      · rw [List.getElem?_range hjn] at he
        simp only [Option.map_some, Option.some.injEq] at he
        subst he
        have := (hy (j / 7) hjn).2 (j % 7) u hu
        rwa [show j / 7 * 7 + j % 7 = j by omega] at this
      · rw [List.getElem?_eq_none (by simp; omega)] at he; simp at he
    · intro e he
      simp only [List.mem_map, List.mem_range] at he
      obtain ⟨i, hi, rfl⟩ := he
      exact (hy i hi).1
end Go.Proofs.Ytphjmbhlokkdiaa
