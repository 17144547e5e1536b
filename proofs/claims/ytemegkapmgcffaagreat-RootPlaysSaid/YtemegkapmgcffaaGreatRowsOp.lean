import Derived.Test.YtemegkapmgcffaaGreatRowsR
/- Ops upon roots that came in. -/
namespace Go.Proofs.YtemegkapmgcffaaGreat
open Go.RowKit Go.ChangeShapes Go.WideShapes
set_option linter.unusedSimpArgs false
set_option linter.unusedVariables false

structure Op6 where
  k : Int
  n : Int
  r : Ro
  nm : Int
def op6C (o : Op6) : List Value := [.int .i64 o.k, .int .i64 o.n, .int .i64 o.r.s, .int .i64 o.r.b, .slice o.r.A o.r.x.length o.r.c, .int .u8 o.nm]
def flatOp (es : List Op6) : List Value := es.flatMap op6C
structure OkOp6 (w : World) (o : Op6) : Prop where
  k : -9223372036854775808 ≤ o.k ∧ o.k ≤ 9223372036854775807
  n : -9223372036854775808 ≤ o.n ∧ o.n ≤ 9223372036854775807
  r : OkRo w o.r
  nm : 0 ≤ o.nm ∧ o.nm ≤ 255
def OkOps (w : World) (es : List Op6) : Prop := ∀ e, e ∈ es → OkOp6 w e
theorem list6 {α : Type} (l : List α) (h : l.length = 6) : ∃ a b c d e f, l = [a, b, c, d, e, f] := by
  match l, h with
  | [a, b, c, d, e, f], _ => exact ⟨a, b, c, d, e, f, rfl⟩
theorem list4o {α : Type} (l : List α) (h : l.length = 4) : ∃ a b c d, l = [a, b, c, d] := by
  match l, h with
  | [a, b, c, d], _ => exact ⟨a, b, c, d, rfl⟩
set_option maxRecDepth 100000 in
set_option maxHeartbeats 2000000 in
theorem op6_cells {H : Type} {enc : TypeId × Value → H} {W : World} {fuel : Nat} {cs : List Value} {x : DataW H × List MemPlace}
    (hl : cs.length = 6) (h : DataW.trod enc Tryz.prog W 0 (fun _ => true) true fuel 38 cs = some x) : ∃ e : Op6, OkOp6 W e ∧ cs = op6C e := by
  obtain ⟨c0, c1, c2, c3, c4, c5, rfl⟩ := list6 cs hl
  obtain ⟨xs, n, _, _, _, hxl, hf⟩ := DataW.trod_struct Tryz.underlying38 h
  obtain ⟨y0, y1, y2, y3, rfl⟩ := list4o xs (by simpa using hxl)
  have k0 : DataW.trod enc Tryz.prog W 0 (fun _ => true) true n 3 ((([c0, c1, c2, c3, c4, c5] : List Value).drop 0).take (Tryz.prog.cellsOf 3)) = some y0 := hf 0 _ rfl
  rw [show Tryz.prog.cellsOf 3 = 1 by kernel_rfl] at k0
  simp only [List.drop, List.take] at k0
  have k1 : DataW.trod enc Tryz.prog W 0 (fun _ => true) true n 3 ((([c0, c1, c2, c3, c4, c5] : List Value).drop 1).take (Tryz.prog.cellsOf 3)) = some y1 := hf 1 _ rfl
  rw [show Tryz.prog.cellsOf 3 = 1 by kernel_rfl] at k1
  simp only [List.drop, List.take] at k1
  have k2 : DataW.trod enc Tryz.prog W 0 (fun _ => true) true n 36 ((([c0, c1, c2, c3, c4, c5] : List Value).drop 2).take (Tryz.prog.cellsOf 36)) = some y2 := hf 2 _ rfl
  rw [show Tryz.prog.cellsOf 36 = 3 by kernel_rfl] at k2
  simp only [List.drop, List.take] at k2
  have k3 : DataW.trod enc Tryz.prog W 0 (fun _ => true) true n 5 ((([c0, c1, c2, c3, c4, c5] : List Value).drop 5).take (Tryz.prog.cellsOf 5)) = some y3 := hf 3 _ rfl
  rw [show Tryz.prog.cellsOf 5 = 1 by kernel_rfl] at k3
  simp only [List.drop, List.take] at k3
  obtain ⟨x0, e0, _, w0⟩ := DataW.trod_int Tryz.underlying3 k0
  obtain ⟨x1, e1, _, w1⟩ := DataW.trod_int Tryz.underlying3 k1
  obtain ⟨r, hr1, hr2⟩ := ro_cells rfl k2
  obtain ⟨x3, e3, _, w3⟩ := DataW.trod_int Tryz.underlying5 k3
  simp only [List.cons.injEq, and_true] at e0 e1 e3
  subst e0 e1 e3
  simp only [roC, List.cons.injEq, and_true] at hr2
  obtain ⟨rfl, rfl, rfl⟩ := hr2
  exact ⟨⟨x0, x1, r, x3⟩, ⟨int_range w0, int_range w1, hr1, u8_range w3⟩, rfl⟩
theorem ops6_open {H : Type} {enc : TypeId × Value → H} {w : World} {fuel : Nat} {v : Value} {x : DataW H × List MemPlace}
    (h : DataW.trod enc Tryz.prog w 0 (fun _ => true) true fuel 23 [v] = some x) : ∃ a n c, v = .slice a n c ∧ n ≤ 9223372036854775807 ∧ c ≤ 9223372036854775807 ∧ ∃ es : List Op6, (∀ e, e ∈ es → OkOp6 w e) ∧ Sl w 6 a n c (flatOp es) := by
  have : Inhabited Op6 := ⟨⟨0, 0, ⟨0, 0, [], none, 0⟩, 0⟩⟩
  exact rows_open 23 38 6 (by omega) Tryz.underlying23 (by kernel_rfl) op6C (fun _ => rfl) (fun e => OkOp6 w e) (fun hl h => op6_cells hl h) h
theorem slOp_at {w : World} {ad : Addr} {m d : Nat} {es : List Op6} (h : Sl w 6 (some ad) m d (flatOp es)) {k : Nat} {e : Op6} (hk : es[k]? = some e) (j : Nat) (u : Value) (hj : (op6C e)[j]? = some u) : w.cell? ((ad.add (k * 6)).add j) = some u := by
  obtain ⟨a, h1, h2⟩ := h.cells (k * 6 + j) u (flatMap_get op6C 6 (fun _ => rfl) hk hj)
  cases h1
  rwa [addr_add_add]
theorem slOp_len {w : World} {A : Option Addr} {m d : Nat} {es : List Op6} (h : Sl w 6 A m d (flatOp es)) : es.length = m := by
  have := h.len
  unfold flatOp at this
  rw [flatMap_len op6C 6 (fun _ => rfl)] at this
  omega
theorem slOp_addr {w : World} {A : Option Addr} {m d : Nat} {es : List Op6} (h : Sl w 6 A m d (flatOp es)) {k : Nat} {e : Op6} (hk : es[k]? = some e) : ∃ ad, A = some ad := by
  obtain ⟨a, h1, h2⟩ := h.cells (k * 6 + 0) _ (flatMap_get op6C 6 (fun _ => rfl) hk (j := 0) rfl)
  exact ⟨a, h1⟩
theorem slOp_six {w : World} {ad : Addr} {m d : Nat} {es : List Op6} (h : Sl w 6 (some ad) m d (flatOp es)) {k : Nat} {e : Op6} (hk : es[k]? = some e) :
    w.cell? (ad.add (k * 6)) = some (.int .i64 e.k) ∧ w.cell? { block := (ad.add (k * 6)).block, off := (ad.add (k * 6)).off + 1, spot := none } = some (.int .i64 e.n) ∧
    w.cell? { block := (ad.add (k * 6)).block, off := (ad.add (k * 6)).off + 2, spot := none } = some (.int .i64 e.r.s) ∧ w.cell? { block := (ad.add (k * 6)).block, off := (ad.add (k * 6)).off + 3, spot := none } = some (.int .i64 e.r.b) ∧
    w.cell? { block := (ad.add (k * 6)).block, off := (ad.add (k * 6)).off + 4, spot := none } = some (.slice e.r.A e.r.x.length e.r.c) ∧ w.cell? { block := (ad.add (k * 6)).block, off := (ad.add (k * 6)).off + 5, spot := none } = some (.int .u8 e.nm) := by
  have key := fun j u hj => slOp_at h hk j u hj
  exact ⟨key 0 _ rfl, key 1 _ rfl, key 2 _ rfl, key 3 _ rfl, key 4 _ rfl, key 5 _ rfl⟩
end Go.Proofs.YtemegkapmgcffaaGreat
