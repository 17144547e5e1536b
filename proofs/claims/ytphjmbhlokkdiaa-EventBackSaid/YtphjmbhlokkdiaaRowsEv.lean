import Derived.Test.YtphjmbhlokkdiaaLawForms
import Derived.WalkKit
import Derived.ProofKit
import Derived.OpenShut
import Derived.ShutString
import Derived.ChangeOld
namespace Go.Proofs.Ytphjmbhlokkdiaa
open Go.RowKit Go.ChangeShapes Go.WideShapes

theorem list7 {α : Type} (l : List α) (h : l.length = 7) : ∃ a b c d e f g, l = [a, b, c, d, e, f, g] := by
  match l, h with
  | [a, b, c, d, e, f, g], _ => exact ⟨a, b, c, d, e, f, g, rfl⟩
theorem bstr_of (s : ByteArray) : s = bstr s.data.toList := by cases s; rfl

set_option maxRecDepth 100000 in
/-- an event that came in -/
theorem ev_open {H : Type} {enc : TypeId × Value → H} {W : World} {base fuel : Nat} {v : Value} {x : DataW H × List MemPlace}
    (hv : Value.okWide Try.prog W .any base 24 v) (h : DataW.trod enc Try.prog W 0 (fun _ => true) true fuel 24 v.cells.toList = some x) : ∃ e : Ev, e.ok ∧ v = e.v := by
  obtain ⟨cs, rfl, hsz, _⟩ : ∃ cs, v = .agg cs ∧ cs.size = Try.prog.cellsOf 24 ∧ Row.okWide Try.prog W .any base 24 cs := by
    simpa [Value.okWide, Try.underlying24] using hv
  rw [show Try.prog.cellsOf 24 = 7 by kernel_rfl] at hsz
  obtain ⟨l⟩ := cs
  obtain ⟨c0, c1, c2, c3, c4, c5, c6, rfl⟩ := list7 l (by simpa using hsz)
  obtain ⟨xs, n, _, _, _, hxl, hf⟩ := DataW.trod_struct Try.underlying24 h
  obtain ⟨y0, y1, y2, y3, y4, y5, y6, rfl⟩ := list7 xs (by simpa using hxl)
  have k0 : DataW.trod enc Try.prog W 0 (fun _ => true) true n 22 ((([c0, c1, c2, c3, c4, c5, c6] : List Value).drop 0).take (Try.prog.cellsOf 22)) = some y0 := hf 0 _ rfl
  rw [show Try.prog.cellsOf 22 = 1 by kernel_rfl] at k0
  simp only [List.drop, List.take] at k0
  have k1 : DataW.trod enc Try.prog W 0 (fun _ => true) true n 2 ((([c0, c1, c2, c3, c4, c5, c6] : List Value).drop 1).take (Try.prog.cellsOf 2)) = some y1 := hf 1 _ rfl
  rw [show Try.prog.cellsOf 2 = 1 by kernel_rfl] at k1
  simp only [List.drop, List.take] at k1
  have k2 : DataW.trod enc Try.prog W 0 (fun _ => true) true n 3 ((([c0, c1, c2, c3, c4, c5, c6] : List Value).drop 2).take (Try.prog.cellsOf 3)) = some y2 := hf 2 _ rfl
  rw [show Try.prog.cellsOf 3 = 1 by kernel_rfl] at k2
  simp only [List.drop, List.take] at k2
  have k3 : DataW.trod enc Try.prog W 0 (fun _ => true) true n 3 ((([c0, c1, c2, c3, c4, c5, c6] : List Value).drop 3).take (Try.prog.cellsOf 3)) = some y3 := hf 3 _ rfl
  rw [show Try.prog.cellsOf 3 = 1 by kernel_rfl] at k3
  simp only [List.drop, List.take] at k3
  have k4 : DataW.trod enc Try.prog W 0 (fun _ => true) true n 2 ((([c0, c1, c2, c3, c4, c5, c6] : List Value).drop 4).take (Try.prog.cellsOf 2)) = some y4 := hf 4 _ rfl
  rw [show Try.prog.cellsOf 2 = 1 by kernel_rfl] at k4
  simp only [List.drop, List.take] at k4
  have k5 : DataW.trod enc Try.prog W 0 (fun _ => true) true n 2 ((([c0, c1, c2, c3, c4, c5, c6] : List Value).drop 5).take (Try.prog.cellsOf 2)) = some y5 := hf 5 _ rfl
  rw [show Try.prog.cellsOf 2 = 1 by kernel_rfl] at k5
  simp only [List.drop, List.take] at k5
  have k6 : DataW.trod enc Try.prog W 0 (fun _ => true) true n 9 ((([c0, c1, c2, c3, c4, c5, c6] : List Value).drop 6).take (Try.prog.cellsOf 9)) = some y6 := hf 6 _ rfl
  rw [show Try.prog.cellsOf 9 = 1 by kernel_rfl] at k6
  simp only [List.drop, List.take] at k6
  obtain ⟨x0, e0, _, w0⟩ := DataW.trod_int Try.underlying22 k0
  obtain ⟨x1, e1, _, w1⟩ := DataW.trod_int Try.underlying2 k1
  obtain ⟨x2, e2, _, w2⟩ := DataW.trod_int Try.underlying3 k2
  obtain ⟨x3, e3, _, w3⟩ := DataW.trod_int Try.underlying3 k3
  obtain ⟨x4, e4, _, w4⟩ := DataW.trod_int Try.underlying2 k4
  obtain ⟨x5, e5, _, w5⟩ := DataW.trod_int Try.underlying2 k5
  obtain ⟨x6, e6, _, w6⟩ := DataW.trod_string Try.underlying9 k6
  simp only [List.cons.injEq, and_true] at e0
  simp only [List.cons.injEq, and_true] at e1
  simp only [List.cons.injEq, and_true] at e2
  simp only [List.cons.injEq, and_true] at e3
  simp only [List.cons.injEq, and_true] at e4
  simp only [List.cons.injEq, and_true] at e5
  simp only [List.cons.injEq, and_true] at e6
  subst e0 e1 e2 e3 e4 e5 e6
  simp [Lit.wf, IntKind.min, IntKind.max, IntKind.signed, IntKind.bits] at w0 w1 w2 w3 w4 w5
  obtain ⟨K, rfl⟩ := Int.eq_ofNat_of_zero_le (show 0 ≤ x0 by omega)
  refine ⟨⟨K, x1, x2, x3, x4, x5, x6.data.toList⟩, ⟨by simp only; omega, by simp only; omega, by simp only; omega, by simp only; omega, by simp only; omega, by simp only; omega⟩, ?_⟩
  unfold Ev.v Ev.cells
  rw [← bstr_of x6]
end Go.Proofs.Ytphjmbhlokkdiaa
