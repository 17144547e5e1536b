import Derived.Test.YtemegkapmgcffaaMDe
/- A deed that came in by itself. -/
namespace Go.Proofs.Ytemegkapmgcffaa
open Go.RowKit Go.ChangeShapes Go.WideShapes

def OkDs (w : World) (es : List Ded) : Prop := ∀ e, e ∈ es → OkDed w e
def dedA (d : Ded) : Value := .agg (dedC d).toArray
set_option maxRecDepth 100000 in
theorem ded_open {H : Type} {enc : TypeId × Value → H} {W : World} {base fuel : Nat} {v : Value} {x : DataW H × List MemPlace}
    (hv : Value.okWide Try.prog W .any base 70 v) (h : DataW.trod enc Try.prog W 0 (fun _ => true) true fuel 70 v.cells.toList = some x) : ∃ e : Ded, OkDed W e ∧ v = dedA e := by
  obtain ⟨cs, rfl, hsz, _⟩ : ∃ cs, v = .agg cs ∧ cs.size = Try.prog.cellsOf 70 ∧ Row.okWide Try.prog W .any base 70 cs := by
    simpa [Value.okWide, Try.underlying70] using hv
  rw [show Try.prog.cellsOf 70 = 7 by kernel_rfl] at hsz
  have h2 : DataW.trod enc Try.prog W 0 (fun _ => true) true fuel 70 cs.toList = some x := h
  obtain ⟨e, h3, h4⟩ := ded_cells (by simpa using hsz) h2
  refine ⟨e, h3, ?_⟩
  unfold dedA
  rw [← h4]
end Go.Proofs.Ytemegkapmgcffaa
