import Derived.Test.YtphjmbhlokkdiaaRowsG
import Derived.Test.YtphjmbhlokkdiaaLawWkGone
/- Signs that came in. -/
namespace Go.Proofs.Ytphjmbhlokkdiaa
open Go.RowKit Go.ChangeShapes Go.WideShapes

theorem list3g {α : Type} (l : List α) (h : l.length = 3) : ∃ a b c, l = [a, b, c] := by
  match l, h with
  | [a, b, c], _ => exact ⟨a, b, c, rfl⟩
theorem u8_range {b : Int} (h : (Lit.int .u8 b).wf = true) : 0 ≤ b ∧ b ≤ 255 := by
  simp [Lit.wf, IntKind.min, IntKind.max, IntKind.signed, IntKind.bits] at h; omega
set_option maxRecDepth 100000 in
theorem sg_cells {H : Type} {enc : TypeId × Value → H} {W : World} {fuel : Nat} {cs : List Value} {x : DataW H × List MemPlace}
    (hl : cs.length = 3) (h : DataW.trod enc Try.prog W 0 (fun _ => true) true fuel 78 cs = some x) : ∃ e : Sg, OkS [e] ∧ cs = sgC e := by
  obtain ⟨c0, c1, c2, rfl⟩ := list3g cs hl
  obtain ⟨xs, n, _, _, _, hxl, hf⟩ := DataW.trod_struct Try.underlying78 h
  obtain ⟨y0, y1, y2, rfl⟩ := list3g xs (by simpa using hxl)
  have k0 : DataW.trod enc Try.prog W 0 (fun _ => true) true n 3 ((([c0, c1, c2] : List Value).drop 0).take (Try.prog.cellsOf 3)) = some y0 := hf 0 _ rfl
  rw [show Try.prog.cellsOf 3 = 1 by kernel_rfl] at k0
  simp only [List.drop, List.take] at k0
  have k1 : DataW.trod enc Try.prog W 0 (fun _ => true) true n 5 ((([c0, c1, c2] : List Value).drop 1).take (Try.prog.cellsOf 5)) = some y1 := hf 1 _ rfl
  rw [show Try.prog.cellsOf 5 = 1 by kernel_rfl] at k1
  simp only [List.drop, List.take] at k1
  have k2 : DataW.trod enc Try.prog W 0 (fun _ => true) true n 4 ((([c0, c1, c2] : List Value).drop 2).take (Try.prog.cellsOf 4)) = some y2 := hf 2 _ rfl
  rw [show Try.prog.cellsOf 4 = 1 by kernel_rfl] at k2
  simp only [List.drop, List.take] at k2
  obtain ⟨x0, e0, _, w0⟩ := DataW.trod_int Try.underlying3 k0
  obtain ⟨x1, e1, _, w1⟩ := DataW.trod_int Try.underlying5 k1
  obtain ⟨x2, e2, _⟩ := DataW.trod_bool Try.underlying4 k2
  simp only [List.cons.injEq, and_true] at e0 e1 e2
  subst e0 e1 e2
  exact ⟨⟨x0, x1, x2⟩, fun y hy => by rw [List.mem_singleton] at hy; subst hy; exact u8_range w1, rfl⟩
theorem sgs_open {H : Type} {enc : TypeId × Value → H} {w : World} {fuel : Nat} {v : Value} {x : DataW H × List MemPlace}
    (h : DataW.trod enc Try.prog w 0 (fun _ => true) true fuel 75 [v] = some x) : ∃ a n c, v = .slice a n c ∧ n ≤ 9223372036854775807 ∧ c ≤ 9223372036854775807 ∧ ∃ es : List Sg, OkS es ∧ Sl w 3 a n c (flatS es) := by
  have : Inhabited Sg := ⟨⟨0, 0, false⟩⟩
  obtain ⟨a, n, c, h1, h2, h3, es, h4, h5⟩ := rows_open 75 78 3 (by omega) Try.underlying75 (by kernel_rfl) sgC (fun _ => rfl) (fun e => OkS [e]) (fun hl h => sg_cells hl h) h
  exact ⟨a, n, c, h1, h2, h3, es, fun y hy => h4 y hy y (List.mem_singleton.2 rfl), h5⟩
end Go.Proofs.Ytphjmbhlokkdiaa
