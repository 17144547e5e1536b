import Derived.Test.YtphjmbhlokkdiaaRowsG
import Derived.Test.YtphjmbhlokkdiaaWkA
/- Workers that came in. -/
namespace Go.Proofs.Ytphjmbhlokkdiaa
open Go.RowKit Go.ChangeShapes Go.WideShapes

theorem list2g {α : Type} (l : List α) (h : l.length = 2) : ∃ a b, l = [a, b] := by
  match l, h with
  | [a, b], _ => exact ⟨a, b, rfl⟩
theorem list2a {α : Type} (l : List α) (h : (⟨l⟩ : Array α).size = 2) : ∃ a b, l = [a, b] := list2g l h
set_option maxRecDepth 100000 in
theorem wk_cells {H : Type} {enc : TypeId × Value → H} {W : World} {fuel : Nat} {cs : List Value} {x : DataW H × List MemPlace}
    (hl : cs.length = 2) (h : DataW.trod enc Try.prog W 0 (fun _ => true) true fuel 115 cs = some x) : ∃ e : Wk, OkW [e] ∧ cs = wkC e := by
  obtain ⟨c0, c1, rfl⟩ := list2g cs hl
  obtain ⟨xs, n, _, _, _, hxl, hf⟩ := DataW.trod_struct Try.underlying115 h
  obtain ⟨y0, y1, rfl⟩ := list2g xs (by simpa using hxl)
  have k0 : DataW.trod enc Try.prog W 0 (fun _ => true) true n 3 ((([c0, c1] : List Value).drop 0).take (Try.prog.cellsOf 3)) = some y0 := hf 0 _ rfl
  rw [show Try.prog.cellsOf 3 = 1 by kernel_rfl] at k0
  simp only [List.drop, List.take] at k0
  have k1 : DataW.trod enc Try.prog W 0 (fun _ => true) true n 2 ((([c0, c1] : List Value).drop 1).take (Try.prog.cellsOf 2)) = some y1 := hf 1 _ rfl
  rw [show Try.prog.cellsOf 2 = 1 by kernel_rfl] at k1
  simp only [List.drop, List.take] at k1
  obtain ⟨x0, e0, _, w0⟩ := DataW.trod_int Try.underlying3 k0
  obtain ⟨x1, e1, _, w1⟩ := DataW.trod_int Try.underlying2 k1
  simp only [List.cons.injEq, and_true] at e0
  simp only [List.cons.injEq, and_true] at e1
  subst e0 e1
  exact ⟨⟨x0, x1⟩, fun y hy => by rw [List.mem_singleton] at hy; subst hy; exact ⟨int_range w0, int_range w1⟩, rfl⟩
theorem ws_open {H : Type} {enc : TypeId × Value → H} {w : World} {fuel : Nat} {v : Value} {x : DataW H × List MemPlace}
    (h : DataW.trod enc Try.prog w 0 (fun _ => true) true fuel 62 [v] = some x) : ∃ a n c, v = .slice a n c ∧ n ≤ 9223372036854775807 ∧ c ≤ 9223372036854775807 ∧ ∃ es : List Wk, OkW es ∧ Sl w 2 a n c (flatW es) := by
  have : Inhabited Wk := ⟨⟨0, 0⟩⟩
  obtain ⟨a, n, c, h1, h2, h3, es, h4, h5⟩ := rows_open 62 115 2 (by omega) Try.underlying62 (by kernel_rfl) wkC (fun _ => rfl) (fun e => OkW [e]) (fun hl h => wk_cells hl h) h
  exact ⟨a, n, c, h1, h2, h3, es, fun y hy => h4 y hy y (List.mem_singleton.2 rfl), h5⟩
end Go.Proofs.Ytphjmbhlokkdiaa
