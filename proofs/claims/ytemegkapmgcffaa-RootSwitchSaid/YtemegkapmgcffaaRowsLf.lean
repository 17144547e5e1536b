import Derived.Test.YtemegkapmgcffaaRowsR
/- Lives that came in, in a slice. -/
namespace Go.Proofs.Ytemegkapmgcffaa
open Go.RowKit Go.ChangeShapes Go.WideShapes
set_option linter.unusedSimpArgs false
set_option linter.unusedVariables false

structure Lf where
  rs : List Ro
  arm : Int
  ks : List Int
  ts : List Int
  rA : Option Addr
  rc : Nat
  kA : Option Addr
  kc : Nat
  tA : Option Addr
  tc : Nat
def lfC (l : Lf) : List Value := [.slice l.rA l.rs.length l.rc, .int .i64 l.arm, .slice l.kA l.ks.length l.kc, .slice l.tA l.ts.length l.tc]
def flatLf (es : List Lf) : List Value := es.flatMap lfC
structure OkLf (w : World) (l : Lf) : Prop where
  rs : Sl w 3 l.rA l.rs.length l.rc (flatRo l.rs) ∧ l.rs.length ≤ 9223372036854775807 ∧ OkRos w l.rs
  arm : -9223372036854775808 ≤ l.arm ∧ l.arm ≤ 9223372036854775807
  ks : Sl w 1 l.kA l.ks.length l.kc (intsV l.ks) ∧ l.ks.length ≤ 9223372036854775807 ∧ I64 l.ks
  ts : Sl w 1 l.tA l.ts.length l.tc (intsV l.ts) ∧ l.ts.length ≤ 9223372036854775807 ∧ I64 l.ts
def OkLfs (w : World) (es : List Lf) : Prop := ∀ e, e ∈ es → OkLf w e
theorem list4f {α : Type} (l : List α) (h : l.length = 4) : ∃ a b c d, l = [a, b, c, d] := by
  match l, h with
  | [a, b, c, d], _ => exact ⟨a, b, c, d, rfl⟩
set_option maxRecDepth 100000 in
set_option maxHeartbeats 2000000 in
theorem lf_cells {H : Type} {enc : TypeId × Value → H} {W : World} {fuel : Nat} {cs : List Value} {x : DataW H × List MemPlace}
    (hl : cs.length = 4) (h : DataW.trod enc Try.prog W 0 (fun _ => true) true fuel 99 cs = some x) : ∃ e : Lf, OkLf W e ∧ cs = lfC e := by
  obtain ⟨c0, c1, c2, c3, rfl⟩ := list4f cs hl
  obtain ⟨xs, n, _, _, _, hxl, hf⟩ := DataW.trod_struct Try.underlying99 h
  obtain ⟨y0, y1, y2, y3, rfl⟩ := list4f xs (by simpa using hxl)
  have k0 : DataW.trod enc Try.prog W 0 (fun _ => true) true n 44 ((([c0, c1, c2, c3] : List Value).drop 0).take (Try.prog.cellsOf 44)) = some y0 := hf 0 _ rfl
  rw [show Try.prog.cellsOf 44 = 1 by kernel_rfl] at k0
  simp only [List.drop, List.take] at k0
  have k1 : DataW.trod enc Try.prog W 0 (fun _ => true) true n 3 ((([c0, c1, c2, c3] : List Value).drop 1).take (Try.prog.cellsOf 3)) = some y1 := hf 1 _ rfl
  rw [show Try.prog.cellsOf 3 = 1 by kernel_rfl] at k1
  simp only [List.drop, List.take] at k1
  have k2 : DataW.trod enc Try.prog W 0 (fun _ => true) true n 53 ((([c0, c1, c2, c3] : List Value).drop 2).take (Try.prog.cellsOf 53)) = some y2 := hf 2 _ rfl
  rw [show Try.prog.cellsOf 53 = 1 by kernel_rfl] at k2
  simp only [List.drop, List.take] at k2
  have k3 : DataW.trod enc Try.prog W 0 (fun _ => true) true n 53 ((([c0, c1, c2, c3] : List Value).drop 3).take (Try.prog.cellsOf 53)) = some y3 := hf 3 _ rfl
  rw [show Try.prog.cellsOf 53 = 1 by kernel_rfl] at k3
  simp only [List.drop, List.take] at k3
  obtain ⟨A0, n0, q0, rfl, m0, _, l0, o0, s0⟩ := rts_open k0
  obtain ⟨x1, e1, _, w1⟩ := DataW.trod_int Try.underlying3 k1
  obtain ⟨A5, n5, q5, rfl, l5, s5, m5, i5⟩ := ints_open k2
  obtain ⟨A6, n6, q6, rfl, l6, s6, m6, i6⟩ := ints_open k3
  simp only [List.cons.injEq, and_true] at e1
  subst e1
  obtain rfl := slR_len s0
  obtain rfl := sl_n s5
  obtain rfl := sl_n s6
  exact ⟨⟨l0, x1, l5, l6, A0, q0, A5, q5, A6, q6⟩, ⟨⟨s0, m0, o0⟩, int_range w1, ⟨s5, m5, i5⟩, ⟨s6, m6, i6⟩⟩, rfl⟩
theorem lfs_open {H : Type} {enc : TypeId × Value → H} {w : World} {fuel : Nat} {v : Value} {x : DataW H × List MemPlace}
    (h : DataW.trod enc Try.prog w 0 (fun _ => true) true fuel 97 [v] = some x) : ∃ a n c, v = .slice a n c ∧ n ≤ 9223372036854775807 ∧ c ≤ 9223372036854775807 ∧ ∃ es : List Lf, (∀ e, e ∈ es → OkLf w e) ∧ Sl w 4 a n c (flatLf es) := by
  have : Inhabited Lf := ⟨⟨[], 0, [], [], none, 0, none, 0, none, 0⟩⟩
  exact rows_open 97 99 4 (by omega) Try.underlying97 (by kernel_rfl) lfC (fun _ => rfl) (fun e => OkLf w e) (fun hl h => lf_cells hl h) h
theorem slL_at {w : World} {ad : Addr} {m d : Nat} {es : List Lf} (h : Sl w 4 (some ad) m d (flatLf es)) {k : Nat} {e : Lf} (hk : es[k]? = some e) (j : Nat) (u : Value) (hj : (lfC e)[j]? = some u) : w.cell? ((ad.add (k * 4)).add j) = some u := by
  obtain ⟨a, h1, h2⟩ := h.cells (k * 4 + j) u (flatMap_get lfC 4 (fun _ => rfl) hk hj)
  cases h1
  rwa [addr_add_add]
theorem slL_len {w : World} {A : Option Addr} {m d : Nat} {es : List Lf} (h : Sl w 4 A m d (flatLf es)) : es.length = m := by
  have := h.len
  unfold flatLf at this
  rw [flatMap_len lfC 4 (fun _ => rfl)] at this
  omega
theorem slL_addr {w : World} {A : Option Addr} {m d : Nat} {es : List Lf} (h : Sl w 4 A m d (flatLf es)) {k : Nat} {e : Lf} (hk : es[k]? = some e) : ∃ ad, A = some ad := by
  obtain ⟨a, h1, h2⟩ := h.cells (k * 4 + 0) _ (flatMap_get lfC 4 (fun _ => rfl) hk (j := 0) rfl)
  exact ⟨a, h1⟩
theorem slL_four {w : World} {ad : Addr} {m d : Nat} {es : List Lf} (h : Sl w 4 (some ad) m d (flatLf es)) {k : Nat} {e : Lf} (hk : es[k]? = some e) :
    w.cell? (ad.add (k * 4)) = some (.slice e.rA e.rs.length e.rc) ∧ w.cell? { block := (ad.add (k * 4)).block, off := (ad.add (k * 4)).off + 1, spot := none } = some (.int .i64 e.arm) ∧
    w.cell? { block := (ad.add (k * 4)).block, off := (ad.add (k * 4)).off + 2, spot := none } = some (.slice e.kA e.ks.length e.kc) ∧
    w.cell? { block := (ad.add (k * 4)).block, off := (ad.add (k * 4)).off + 3, spot := none } = some (.slice e.tA e.ts.length e.tc) := by
  have key := fun j u hj => slL_at h hk j u hj
  exact ⟨key 0 _ rfl, key 1 _ rfl, key 2 _ rfl, key 3 _ rfl⟩
end Go.Proofs.Ytemegkapmgcffaa
