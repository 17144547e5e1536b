import Derived.Test.YtemegkapmgcffaaGreatMDe
import Derived.Test.YtemegkapmgcffaaGreatMRa
/- Roots that came in: by themselves, and in a slice. -/
namespace Go.Proofs.YtemegkapmgcffaaGreat
open Go.RowKit Go.ChangeShapes Go.WideShapes
set_option linter.unusedSimpArgs false
set_option linter.unusedVariables false

/-- a root that came in, and where its blob lies -/
structure Ro where
  s : Int
  b : Int
  x : List UInt8
  A : Option Addr
  c : Nat
def roC (r : Ro) : List Value := [.int .i64 r.s, .int .i64 r.b, .slice r.A r.x.length r.c]
def flatRo (es : List Ro) : List Value := es.flatMap roC
def roA (r : Ro) : Value := .agg (roC r).toArray
structure OkRo (w : World) (r : Ro) : Prop where
  s : -9223372036854775808 ≤ r.s ∧ r.s ≤ 9223372036854775807
  b : -9223372036854775808 ≤ r.b ∧ r.b ≤ 9223372036854775807
  x : Sl w 1 r.A r.x.length r.c (bytesV r.x) ∧ r.x.length ≤ 9223372036854775807
def OkRos (w : World) (es : List Ro) : Prop := ∀ e, e ∈ es → OkRo w e
theorem list3 {α : Type} (l : List α) (h : l.length = 3) : ∃ a b c, l = [a, b, c] := by
  match l, h with
  | [a, b, c], _ => exact ⟨a, b, c, rfl⟩
set_option maxRecDepth 100000 in
set_option maxHeartbeats 2000000 in
theorem ro_cells {H : Type} {enc : TypeId × Value → H} {W : World} {fuel : Nat} {cs : List Value} {x : DataW H × List MemPlace}
    (hl : cs.length = 3) (h : DataW.trod enc Tryz.prog W 0 (fun _ => true) true fuel 36 cs = some x) : ∃ e : Ro, OkRo W e ∧ cs = roC e := by
  obtain ⟨c0, c1, c2, rfl⟩ := list3 cs hl
  obtain ⟨xs, n, _, _, _, hxl, hf⟩ := DataW.trod_struct Tryz.underlying36 h
  obtain ⟨y0, y1, y2, rfl⟩ := list3 xs (by simpa using hxl)
  have k0 : DataW.trod enc Tryz.prog W 0 (fun _ => true) true n 3 ((([c0, c1, c2] : List Value).drop 0).take (Tryz.prog.cellsOf 3)) = some y0 := hf 0 _ rfl
  rw [show Tryz.prog.cellsOf 3 = 1 by kernel_rfl] at k0
  simp only [List.drop, List.take] at k0
  have k1 : DataW.trod enc Tryz.prog W 0 (fun _ => true) true n 3 ((([c0, c1, c2] : List Value).drop 1).take (Tryz.prog.cellsOf 3)) = some y1 := hf 1 _ rfl
  rw [show Tryz.prog.cellsOf 3 = 1 by kernel_rfl] at k1
  simp only [List.drop, List.take] at k1
  have k2 : DataW.trod enc Tryz.prog W 0 (fun _ => true) true n 34 ((([c0, c1, c2] : List Value).drop 2).take (Tryz.prog.cellsOf 34)) = some y2 := hf 2 _ rfl
  rw [show Tryz.prog.cellsOf 34 = 1 by kernel_rfl] at k2
  simp only [List.drop, List.take] at k2
  obtain ⟨x0, e0, _, w0⟩ := DataW.trod_int Tryz.underlying3 k0
  obtain ⟨x1, e1, _, w1⟩ := DataW.trod_int Tryz.underlying3 k1
  obtain ⟨A3, n3, q3, rfl, l3, s3, m3⟩ := bytes_open k2
  simp only [List.cons.injEq, and_true] at e0 e1
  subst e0 e1
  obtain rfl := s3.blen
  exact ⟨⟨x0, x1, l3, A3, q3⟩, ⟨int_range w0, int_range w1, ⟨s3, m3⟩⟩, rfl⟩
theorem OkRo.below {w w' : World} {d : Ro} (h : OkRo w d) (hb : Below w.heap.size w w') : OkRo w' d := ⟨h.s, h.b, ⟨h.x.1.below hb, h.x.2⟩⟩
end Go.Proofs.YtemegkapmgcffaaGreat
