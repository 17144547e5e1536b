import Derived.Test.YtemegkapmgcffaaBase
import Derived.Test.YtemegkapmgcffaaRowsG
import Derived.WalkKit
import Derived.ProofKit
import Derived.OpenShut
import Derived.ChangeMaps5
/- Bytes and whole numbers that came in, in the words of Sl. -/
namespace Go.Proofs.Ytemegkapmgcffaa
open Go.RowKit Go.ChangeShapes Go.WideShapes

theorem bytes_of_ints (zs : List Int) (h : ∀ n ∈ zs, (Lit.int .u8 n).wf = true) : ∃ l : List UInt8, zs.map (Value.int .u8) = bytesV l := by
  induction zs with
  | nil => exact ⟨[], rfl⟩
  | cons z zs ih =>
    obtain ⟨l, hl⟩ := ih (fun n hn => h n (List.mem_cons_of_mem _ hn))
    have hz := h z (List.mem_cons_self ..)
    have hz2 : 0 ≤ z ∧ z ≤ 255 := by
      simp [Lit.wf, IntKind.min, IntKind.max, IntKind.signed, IntKind.bits] at hz; omega
    refine ⟨UInt8.ofNat z.toNat :: l, ?_⟩
    have e : ((UInt8.ofNat z.toNat).toNat : Int) = z := by
      rw [UInt8.toNat_ofNat']; omega
    simp only [List.map_cons, bytesV, byteV, e]
    rw [hl]; rfl
theorem sl_of_rowK {k : IntKind} {w : World} {a : Option Addr} {len cap : Nat} {zs : List Int}
    (h : (a = none ∧ len = 0 ∧ cap = 0 ∧ zs = []) ∨ ∃ x, a = some x ∧ len ≤ cap ∧ cap ≤ maxLen ∧ zs.length = cap ∧ (∀ i, i < zs.length → w.cell? (x.add i) = some (.int k (zs.getD i 0))) ∧ ∀ n ∈ zs, (Lit.int k n).wf = true) :
    ∃ l : List Int, Sl w 1 a len cap (l.map (Value.int k)) ∧ len ≤ 9223372036854775807 ∧ ∀ n ∈ l, (Lit.int k n).wf = true := by
  rcases h with ⟨rfl, rfl, rfl, rfl⟩ | ⟨x, rfl, hl, hm, hz, hcell, hwz⟩
  · exact ⟨[], Sl.nil w 1, by omega, by simp⟩
  · refine ⟨zs.take len, ⟨?_, ?_, hl, fun h => by cases h⟩, by unfold maxLen at hm; omega, fun n hn => hwz n (List.mem_of_mem_take hn)⟩
    · intro j u hj
      rw [List.getElem?_map] at hj
      cases hj2 : (zs.take len)[j]? with
      | none => rw [hj2] at hj; simp at hj
      | some z =>
        rw [hj2] at hj; simp at hj; subst hj
        rw [List.getElem?_take] at hj2
        split at hj2
        · refine ⟨x, rfl, ?_⟩
          rw [hcell j (List.getElem?_eq_some_iff.1 hj2).1, List.getD_eq_getElem?_getD, hj2]; rfl
        · cases hj2
    · simp; omega
theorem u8_range {b : Int} (h : (Lit.int .u8 b).wf = true) : 0 ≤ b ∧ b ≤ 255 := by
  simp [Lit.wf, IntKind.min, IntKind.max, IntKind.signed, IntKind.bits] at h
  omega
theorem u16_range {b : Int} (h : (Lit.int .u16 b).wf = true) : 0 ≤ b ∧ b ≤ 65535 := by
  simp [Lit.wf, IntKind.min, IntKind.max, IntKind.signed, IntKind.bits] at h
  omega
def I64 (l : List Int) : Prop := ∀ x, x ∈ l → -9223372036854775808 ≤ x ∧ x ≤ 9223372036854775807
def intsV (l : List Int) : List Value := l.map fun x => .int .i64 x
section
variable {H : Type} {enc : TypeId × Value → H} {w : World} {fuel : Nat} {v : Value} {x : DataW H × List MemPlace}
theorem ints_open (h : DataW.trod enc Try.prog w 0 (fun _ => true) true fuel 53 [v] = some x) : ∃ a n c, v = .slice a n c ∧ ∃ l : List Int, Sl w 1 a n c (intsV l) ∧ n ≤ 9223372036854775807 ∧ I64 l := by
  rcases open_ints Try.underlying53 Try.underlying3 (by kernel_rfl) h with ⟨hcs, _⟩ | ⟨ad, l, c, zs, hcs, _, hl, hm, hz, _, hcell, hwz⟩
  · simp only [List.cons.injEq, and_true] at hcs
    exact ⟨none, 0, 0, hcs, [], Sl.nil w 1, by omega, fun x hx => by cases hx⟩
  · simp only [List.cons.injEq, and_true] at hcs
    obtain ⟨l2, h1, h2, h3⟩ := sl_of_rowK (k := .i64) (zs := zs) (a := some ad) (len := l) (cap := c) (w := w) (.inr ⟨_, rfl, hl, hm, by simpa using hz, hcell, hwz⟩)
    exact ⟨_, _, _, hcs, l2, h1, h2, fun x hx => int_range (h3 x hx)⟩
theorem bytes_open (h : DataW.trod enc Try.prog w 0 (fun _ => true) true fuel 22 [v] = some x) : ∃ a n c, v = .slice a n c ∧ ∃ l : List UInt8, Sl w 1 a n c (bytesV l) ∧ n ≤ 9223372036854775807 := by
  rcases open_ints Try.underlying22 Try.underlying5 (by kernel_rfl) h with ⟨hcs, _⟩ | ⟨ad, l, c, zs, hcs, _, hl, hm, hz, _, hcell, hwz⟩
  · simp only [List.cons.injEq, and_true] at hcs
    exact ⟨none, 0, 0, hcs, [], Sl.nil w 1, by omega⟩
  · simp only [List.cons.injEq, and_true] at hcs
    obtain ⟨l2, h1, h2, h3⟩ := sl_of_rowK (k := .u8) (zs := zs) (a := some ad) (len := l) (cap := c) (w := w) (.inr ⟨_, rfl, hl, hm, by simpa using hz, hcell, hwz⟩)
    obtain ⟨l3, h4⟩ := bytes_of_ints l2 h3
    rw [h4] at h1
    exact ⟨_, _, _, hcs, l3, h1, h2⟩
end
/-- a deed that came in, and where its slices lie -/
structure Ded where
  op : Int
  a : List UInt8
  t2 : List UInt8
  b : List UInt8
  n : Int
  ks : List Int
  ts : List Int
  bA : Option Addr
  bc : Nat
  kA : Option Addr
  kc : Nat
  tA : Option Addr
  tc : Nat
def dedC (d : Ded) : List Value := [.int .u8 d.op, .string (bstr d.a), .string (bstr d.t2), .slice d.bA d.b.length d.bc, .int .i64 d.n, .slice d.kA d.ks.length d.kc, .slice d.tA d.ts.length d.tc]
def flatD (es : List Ded) : List Value := es.flatMap dedC
structure OkDed (w : World) (d : Ded) : Prop where
  op : 0 ≤ d.op ∧ d.op ≤ 255
  a : d.a.length ≤ 9223372036854775807
  t2 : d.t2.length ≤ 9223372036854775807
  b : Sl w 1 d.bA d.b.length d.bc (bytesV d.b) ∧ d.b.length ≤ 9223372036854775807
  n : -9223372036854775808 ≤ d.n ∧ d.n ≤ 9223372036854775807
  ks : Sl w 1 d.kA d.ks.length d.kc (intsV d.ks) ∧ d.ks.length ≤ 9223372036854775807 ∧ I64 d.ks
  ts : Sl w 1 d.tA d.ts.length d.tc (intsV d.ts) ∧ d.ts.length ≤ 9223372036854775807 ∧ I64 d.ts
theorem list7 {α : Type} (l : List α) (h : l.length = 7) : ∃ a b c d e f g, l = [a, b, c, d, e, f, g] := by
  match l, h with
  | [a, b, c, d, e, f, g], _ => exact ⟨a, b, c, d, e, f, g, rfl⟩
theorem sl_n {w : World} {A : Option Addr} {n c : Nat} {l : List Int} (h : Sl w 1 A n c (intsV l)) : l.length = n := by have := h.len; simpa [intsV] using this
set_option maxRecDepth 100000 in
set_option maxHeartbeats 2000000 in
theorem ded_cells {H : Type} {enc : TypeId × Value → H} {W : World} {fuel : Nat} {cs : List Value} {x : DataW H × List MemPlace}
    (hl : cs.length = 7) (h : DataW.trod enc Try.prog W 0 (fun _ => true) true fuel 70 cs = some x) : ∃ e : Ded, OkDed W e ∧ cs = dedC e := by
  obtain ⟨c0, c1, c2, c3, c4, c5, c6, rfl⟩ := list7 cs hl
  obtain ⟨xs, n, _, _, _, hxl, hf⟩ := DataW.trod_struct Try.underlying70 h
  obtain ⟨y0, y1, y2, y3, y4, y5, y6, rfl⟩ := list7 xs (by simpa using hxl)
  have k0 : DataW.trod enc Try.prog W 0 (fun _ => true) true n 5 ((([c0, c1, c2, c3, c4, c5, c6] : List Value).drop 0).take (Try.prog.cellsOf 5)) = some y0 := hf 0 _ rfl
  rw [show Try.prog.cellsOf 5 = 1 by kernel_rfl] at k0
  simp only [List.drop, List.take] at k0
  have k1 : DataW.trod enc Try.prog W 0 (fun _ => true) true n 9 ((([c0, c1, c2, c3, c4, c5, c6] : List Value).drop 1).take (Try.prog.cellsOf 9)) = some y1 := hf 1 _ rfl
  rw [show Try.prog.cellsOf 9 = 1 by kernel_rfl] at k1
  simp only [List.drop, List.take] at k1
  have k2 : DataW.trod enc Try.prog W 0 (fun _ => true) true n 9 ((([c0, c1, c2, c3, c4, c5, c6] : List Value).drop 2).take (Try.prog.cellsOf 9)) = some y2 := hf 2 _ rfl
  rw [show Try.prog.cellsOf 9 = 1 by kernel_rfl] at k2
  simp only [List.drop, List.take] at k2
  have k3 : DataW.trod enc Try.prog W 0 (fun _ => true) true n 22 ((([c0, c1, c2, c3, c4, c5, c6] : List Value).drop 3).take (Try.prog.cellsOf 22)) = some y3 := hf 3 _ rfl
  rw [show Try.prog.cellsOf 22 = 1 by kernel_rfl] at k3
  simp only [List.drop, List.take] at k3
  have k4 : DataW.trod enc Try.prog W 0 (fun _ => true) true n 3 ((([c0, c1, c2, c3, c4, c5, c6] : List Value).drop 4).take (Try.prog.cellsOf 3)) = some y4 := hf 4 _ rfl
  rw [show Try.prog.cellsOf 3 = 1 by kernel_rfl] at k4
  simp only [List.drop, List.take] at k4
  have k5 : DataW.trod enc Try.prog W 0 (fun _ => true) true n 53 ((([c0, c1, c2, c3, c4, c5, c6] : List Value).drop 5).take (Try.prog.cellsOf 53)) = some y5 := hf 5 _ rfl
  rw [show Try.prog.cellsOf 53 = 1 by kernel_rfl] at k5
  simp only [List.drop, List.take] at k5
  have k6 : DataW.trod enc Try.prog W 0 (fun _ => true) true n 53 ((([c0, c1, c2, c3, c4, c5, c6] : List Value).drop 6).take (Try.prog.cellsOf 53)) = some y6 := hf 6 _ rfl
  rw [show Try.prog.cellsOf 53 = 1 by kernel_rfl] at k6
  simp only [List.drop, List.take] at k6
  obtain ⟨x0, e0, _, w0⟩ := DataW.trod_int Try.underlying5 k0
  obtain ⟨x1, e1, _, w1⟩ := DataW.trod_string Try.underlying9 k1
  obtain ⟨x2, e2, _, w2⟩ := DataW.trod_string Try.underlying9 k2
  obtain ⟨A3, n3, q3, rfl, l3, s3, m3⟩ := bytes_open k3
  obtain ⟨x4, e4, _, w4⟩ := DataW.trod_int Try.underlying3 k4
  obtain ⟨A5, n5, q5, rfl, l5, s5, m5, i5⟩ := ints_open k5
  obtain ⟨A6, n6, q6, rfl, l6, s6, m6, i6⟩ := ints_open k6
  simp only [List.cons.injEq, and_true] at e0 e1 e2 e4
  subst e0 e1 e2 e4
  obtain rfl := s3.blen
  obtain rfl := sl_n s5
  obtain rfl := sl_n s6
  refine ⟨⟨x0, x1.data.toList, x2.data.toList, l3, x4, l5, l6, A3, q3, A5, q5, A6, q6⟩, ⟨?_, by simpa [maxLen] using w1, by simpa [maxLen] using w2, ⟨s3, m3⟩, int_range w4, ⟨s5, m5, i5⟩, ⟨s6, m6, i6⟩⟩, by unfold dedC; rw [← bstr_of x1, ← bstr_of x2]⟩
  simp [Lit.wf, IntKind.min, IntKind.max, IntKind.signed, IntKind.bits] at w0
  simp only
  omega
theorem deds_open {H : Type} {enc : TypeId × Value → H} {w : World} {fuel : Nat} {v : Value} {x : DataW H × List MemPlace}
    (h : DataW.trod enc Try.prog w 0 (fun _ => true) true fuel 68 [v] = some x) : ∃ a n c, v = .slice a n c ∧ n ≤ 9223372036854775807 ∧ c ≤ 9223372036854775807 ∧ ∃ es : List Ded, (∀ e, e ∈ es → OkDed w e) ∧ Sl w 7 a n c (flatD es) := by
  have : Inhabited Ded := ⟨⟨0, [], [], [], 0, [], [], none, 0, none, 0, none, 0⟩⟩
  exact rows_open 68 70 7 (by omega) Try.underlying68 (by kernel_rfl) dedC (fun _ => rfl) (fun e => OkDed w e) (fun hl h => ded_cells hl h) h
theorem OkDed.below {w w' : World} {d : Ded} (h : OkDed w d) (hb : Below w.heap.size w w') : OkDed w' d := ⟨h.op, h.a, h.t2, ⟨h.b.1.below hb, h.b.2⟩, h.n, ⟨h.ks.1.below hb, h.ks.2⟩, ⟨h.ts.1.below hb, h.ts.2⟩⟩
theorem slD_at {w : World} {ad : Addr} {m d : Nat} {es : List Ded} (h : Sl w 7 (some ad) m d (flatD es)) {k : Nat} {e : Ded} (hk : es[k]? = some e) (j : Nat) (u : Value) (hj : (dedC e)[j]? = some u) : w.cell? ((ad.add (k * 7)).add j) = some u := by
  obtain ⟨a, h1, h2⟩ := h.cells (k * 7 + j) u (flatMap_get dedC 7 (fun _ => rfl) hk hj)
  cases h1
  rwa [addr_add_add]
theorem slD_len {w : World} {A : Option Addr} {m d : Nat} {es : List Ded} (h : Sl w 7 A m d (flatD es)) : es.length = m := by
  have := h.len
  unfold flatD at this
  rw [flatMap_len dedC 7 (fun _ => rfl)] at this
  omega
end Go.Proofs.Ytemegkapmgcffaa
