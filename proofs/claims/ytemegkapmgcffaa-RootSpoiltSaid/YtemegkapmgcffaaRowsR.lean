import Derived.Test.YtemegkapmgcffaaMDe
import Derived.Test.YtemegkapmgcffaaMRa
/- Roots that came in: by themselves, and in a slice. -/
namespace Go.Proofs.Ytemegkapmgcffaa
open Go.RowKit Go.ChangeShapes Go.WideShapes
set_option linter.unusedSimpArgs false
set_option linter.unusedVariables false

/-- a root that came in, and where its blob lies -/
structure Ro where
  s : Int
  b : Int
  x : List UInt8
  A : Option Addr
  c : Nat
def roC (r : Ro) : List Value := [.int .i64 r.s, .int .i64 r.b, .slice r.A r.x.length r.c]
def flatRo (es : List Ro) : List Value := es.flatMap roC
def roA (r : Ro) : Value := .agg (roC r).toArray
structure OkRo (w : World) (r : Ro) : Prop where
  s : -9223372036854775808 ≤ r.s ∧ r.s ≤ 9223372036854775807
  b : -9223372036854775808 ≤ r.b ∧ r.b ≤ 9223372036854775807
  x : Sl w 1 r.A r.x.length r.c (bytesV r.x) ∧ r.x.length ≤ 9223372036854775807
def OkRos (w : World) (es : List Ro) : Prop := ∀ e, e ∈ es → OkRo w e
theorem list3 {α : Type} (l : List α) (h : l.length = 3) : ∃ a b c, l = [a, b, c] := by
  match l, h with
  | [a, b, c], _ => exact ⟨a, b, c, rfl⟩
set_option maxRecDepth 100000 in
set_option maxHeartbeats 2000000 in
theorem ro_cells {H : Type} {enc : TypeId × Value → H} {W : World} {fuel : Nat} {cs : List Value} {x : DataW H × List MemPlace}
    (hl : cs.length = 3) (h : DataW.trod enc Try.prog W 0 (fun _ => true) true fuel 24 cs = some x) : ∃ e : Ro, OkRo W e ∧ cs = roC e := by
  obtain ⟨c0, c1, c2, rfl⟩ := list3 cs hl
  obtain ⟨xs, n, _, _, _, hxl, hf⟩ := DataW.trod_struct Try.underlying24 h
  obtain ⟨y0, y1, y2, rfl⟩ := list3 xs (by simpa using hxl)
  have k0 : DataW.trod enc Try.prog W 0 (fun _ => true) true n 3 ((([c0, c1, c2] : List Value).drop 0).take (Try.prog.cellsOf 3)) = some y0 := hf 0 _ rfl
  rw [show Try.prog.cellsOf 3 = 1 by kernel_rfl] at k0
  simp only [List.drop, List.take] at k0
  have k1 : DataW.trod enc Try.prog W 0 (fun _ => true) true n 3 ((([c0, c1, c2] : List Value).drop 1).take (Try.prog.cellsOf 3)) = some y1 := hf 1 _ rfl
  rw [show Try.prog.cellsOf 3 = 1 by kernel_rfl] at k1
  simp only [List.drop, List.take] at k1
  have k2 : DataW.trod enc Try.prog W 0 (fun _ => true) true n 22 ((([c0, c1, c2] : List Value).drop 2).take (Try.prog.cellsOf 22)) = some y2 := hf 2 _ rfl
  rw [show Try.prog.cellsOf 22 = 1 by kernel_rfl] at k2
  simp only [List.drop, List.take] at k2
  obtain ⟨x0, e0, _, w0⟩ := DataW.trod_int Try.underlying3 k0
  obtain ⟨x1, e1, _, w1⟩ := DataW.trod_int Try.underlying3 k1
  obtain ⟨A3, n3, q3, rfl, l3, s3, m3⟩ := bytes_open k2
  simp only [List.cons.injEq, and_true] at e0 e1
  subst e0 e1
  obtain rfl := s3.blen
  exact ⟨⟨x0, x1, l3, A3, q3⟩, ⟨int_range w0, int_range w1, ⟨s3, m3⟩⟩, rfl⟩
theorem rts_open {H : Type} {enc : TypeId × Value → H} {w : World} {fuel : Nat} {v : Value} {x : DataW H × List MemPlace}
    (h : DataW.trod enc Try.prog w 0 (fun _ => true) true fuel 44 [v] = some x) : ∃ a n c, v = .slice a n c ∧ n ≤ 9223372036854775807 ∧ c ≤ 9223372036854775807 ∧ ∃ es : List Ro, (∀ e, e ∈ es → OkRo w e) ∧ Sl w 3 a n c (flatRo es) := by
  have : Inhabited Ro := ⟨⟨0, 0, [], none, 0⟩⟩
  exact rows_open 44 24 3 (by omega) Try.underlying44 (by kernel_rfl) roC (fun _ => rfl) (fun e => OkRo w e) (fun hl h => ro_cells hl h) h
theorem OkRo.below {w w' : World} {d : Ro} (h : OkRo w d) (hb : Below w.heap.size w w') : OkRo w' d := ⟨h.s, h.b, ⟨h.x.1.below hb, h.x.2⟩⟩
theorem slR_at {w : World} {ad : Addr} {m d : Nat} {es : List Ro} (h : Sl w 3 (some ad) m d (flatRo es)) {k : Nat} {e : Ro} (hk : es[k]? = some e) (j : Nat) (u : Value) (hj : (roC e)[j]? = some u) : w.cell? ((ad.add (k * 3)).add j) = some u := by
  obtain ⟨a, h1, h2⟩ := h.cells (k * 3 + j) u (flatMap_get roC 3 (fun _ => rfl) hk hj)
  cases h1
  rwa [addr_add_add]
theorem slR_len {w : World} {A : Option Addr} {m d : Nat} {es : List Ro} (h : Sl w 3 A m d (flatRo es)) : es.length = m := by
  have := h.len
  unfold flatRo at this
  rw [flatMap_len roC 3 (fun _ => rfl)] at this
  omega
theorem slR_addr {w : World} {A : Option Addr} {m d : Nat} {es : List Ro} (h : Sl w 3 A m d (flatRo es)) {k : Nat} {e : Ro} (hk : es[k]? = some e) : ∃ ad, A = some ad := by
  obtain ⟨a, h1, h2⟩ := h.cells (k * 3 + 0) _ (flatMap_get roC 3 (fun _ => rfl) hk (j := 0) rfl)
  exact ⟨a, h1⟩
theorem slR_three {w : World} {ad : Addr} {m d : Nat} {es : List Ro} (h : Sl w 3 (some ad) m d (flatRo es)) {k : Nat} {e : Ro} (hk : es[k]? = some e) :
    w.cell? (ad.add (k * 3)) = some (.int .i64 e.s) ∧ w.cell? { block := (ad.add (k * 3)).block, off := (ad.add (k * 3)).off + 1, spot := none } = some (.int .i64 e.b) ∧
    w.cell? { block := (ad.add (k * 3)).block, off := (ad.add (k * 3)).off + 2, spot := none } = some (.slice e.A e.x.length e.c) := by
  have key := fun j u hj => slR_at h hk j u hj
  exact ⟨key 0 _ rfl, key 1 _ rfl, key 2 _ rfl⟩
set_option maxRecDepth 100000 in
theorem ro_open {H : Type} {enc : TypeId × Value → H} {W : World} {base fuel : Nat} {v : Value} {x : DataW H × List MemPlace}
    (hv : Value.okWide Try.prog W .any base 24 v) (h : DataW.trod enc Try.prog W 0 (fun _ => true) true fuel 24 v.cells.toList = some x) : ∃ e : Ro, OkRo W e ∧ v = roA e := by
  obtain ⟨cs, rfl, hsz, _⟩ : ∃ cs, v = .agg cs ∧ cs.size = Try.prog.cellsOf 24 ∧ Row.okWide Try.prog W .any base 24 cs := by
    simpa [Value.okWide, Try.underlying24] using hv
  rw [show Try.prog.cellsOf 24 = 3 by kernel_rfl] at hsz
  have h2 : DataW.trod enc Try.prog W 0 (fun _ => true) true fuel 24 cs.toList = some x := h
  obtain ⟨e, h3, h4⟩ := ro_cells (by simpa using hsz) h2
  refine ⟨e, h3, ?_⟩
  unfold roA
  rw [← h4]
end Go.Proofs.Ytemegkapmgcffaa
