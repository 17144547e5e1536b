import Derived.Test.YtemegkapmgcffaaGreatMDd
import Derived.Test.YtemegkapmgcffaaGreatShelf
import Derived.WalkKit
import Derived.ProofKit
import Derived.OpenShut
import Derived.ShutString
import Derived.ChangeOld
import Derived.Test.YtemegkapmgcffaaGreatMWa
import Derived.Deep.Slices
import Derived.ChangeMaps5
/- The disk: the chapter's examples (printed by wip/gen/genawake2.py). -/
namespace Go.Proofs.YtemegkapmgcffaaGreat
open Go.RowKit
set_option linter.unusedSimpArgs false
set_option linter.unusedVariables false

def aw0 : Dk := ⟨1000, -1, false, []⟩
def aw1 : Dk := ⟨1000, -1, false, [⟨[97], [120, 121, 122], 0⟩]⟩
def aw2 : Dk := ⟨1000, -1, false, [⟨[97], [120, 121, 122], 3⟩]⟩
def aw3 : Dk := ⟨1000, -1, false, [⟨[97], [120, 121, 122, 117, 118], 3⟩]⟩
def aw4 : Dk := ⟨1000, -1, false, [⟨[97], [120, 121, 122, 117, 118], 3⟩, ⟨[98], [119], 0⟩]⟩
def aw5 : Dk := ⟨1000, -1, false, [⟨[97], [120, 121, 122, 117], 4⟩, ⟨[98], [], 0⟩]⟩
def aw6 : Dk := ⟨1000, -1, false, [⟨[98], [120, 121, 122, 117], 4⟩]⟩
def aw7 : Dk := ⟨1000, 1, false, [⟨[98], [120, 121, 122, 117], 4⟩]⟩
def aw8 : Dk := ⟨1000, 0, false, [⟨[98], [120, 121, 122, 117], 4⟩]⟩
def aw9 : Dk := ⟨1000, -1, true, [⟨[98], [120, 121, 122, 117], 4⟩]⟩
def aw10 : Dk := ⟨1000, -1, false, [⟨[98], [120, 121, 122, 117], 4⟩]⟩
def aw11 : Dk := ⟨1000, -1, false, [⟨[98], [120, 121, 122, 117], 4⟩]⟩
def aw12 : Dk := ⟨1000, -1, false, [⟨[98], [120, 121, 122, 117], 4⟩, ⟨[99], [115, 115, 115, 115, 115, 115, 115, 115, 115, 115, 115, 115, 115, 115, 115, 115, 115, 115, 115, 115, 115, 115, 115, 115, 115, 115, 115, 115, 115, 115, 115, 115, 115, 115, 115, 115, 115, 115, 115, 115, 115, 115, 115, 115, 115, 115, 115, 115, 115, 115, 115, 115, 115, 115, 115, 115, 115, 115, 115, 115], 0⟩]⟩
def aw13 : Dk := ⟨1000, -1, false, [⟨[98], [120, 121, 122, 117], 4⟩, ⟨[99], [115, 115, 115, 115, 115, 115, 115, 115, 115, 115, 115, 115, 115, 115, 115, 115, 115, 115, 115, 115, 115, 115, 115, 115, 115, 115, 115, 115, 115, 115, 115, 115, 115, 115, 115, 115, 115, 115, 115, 115, 115, 115, 115, 115, 115, 115, 115, 115, 115, 115, 115, 115, 115, 115, 115, 115, 115, 115, 115, 115], 60⟩]⟩
def aw14 : Dk := ⟨1000, -1, false, [⟨[98], [120, 121, 122, 117], 4⟩, ⟨[99], [115, 115, 115, 115, 115, 115, 115, 115, 115, 115, 115, 115, 115, 115, 115, 115, 115, 115, 115, 115, 115, 115, 115, 115, 115, 115, 115, 115, 115, 115, 115, 115, 115, 115, 115, 115, 115, 115, 115, 115, 115, 115, 115, 115, 115, 115, 115, 115, 115, 115, 115, 115, 115, 115, 115, 115, 115, 115, 115, 115, 49, 50, 51, 52, 53, 54, 55, 56, 57], 60⟩]⟩
def aw15 : Dk := ⟨1000, -1, false, [⟨[98], [120, 121, 122, 117], 4⟩, ⟨[99], [115, 115, 115, 115, 115, 115, 115, 115, 115, 115, 115, 115, 115, 115, 115, 115, 115, 115, 115, 115, 115, 115, 115, 115, 115, 115, 115, 115, 115, 115, 115, 115, 115, 115, 115, 115, 115, 115, 115, 115, 115, 115, 115, 115, 115, 115, 115, 115, 115, 115, 115, 115, 115, 115, 115, 115, 115, 115, 115, 115, 49, 50, 0, 0], 64⟩]⟩
end Go.Proofs.YtemegkapmgcffaaGreat

/- Slices of structs that came in. -/
namespace Go.Proofs.YtemegkapmgcffaaGreat
open Go.RowKit Go.ChangeShapes Go.WideShapes

theorem flatMap_inv {α : Type} (f : α → List Value) (s : Nat) (hs : 0 < s) (hf : ∀ x, (f x).length = s) (es : List α) (j : Nat) (u : Value) (h : (es.flatMap f)[j]? = some u) : ∃ e, es[j / s]? = some e ∧ (f e)[j % s]? = some u := by
  have hj := (List.getElem?_eq_some_iff.1 h).1
  rw [flatMap_len f s hf] at hj
  have hk : j / s < es.length := Nat.div_lt_of_lt_mul (by rw [Nat.mul_comm]; exact hj)
  have hm : j % s < s := Nat.mod_lt _ hs
  have he : es[j / s]? = some es[j / s] := List.getElem?_eq_getElem hk
  have hv : (f es[j / s])[j % s]? = some ((f es[j / s])[j % s]'(by rw [hf]; exact hm)) := List.getElem?_eq_getElem _
  have h2 := flatMap_get f s hf he hv
  rw [Nat.div_add_mod' j s, h] at h2
  exact ⟨_, he, by rw [hv, ← h2]⟩
theorem rows_open {α H : Type} [Inhabited α] {enc : TypeId × Value → H} {w : World} {fuel : Nat} {v : Value} {x : DataW H × List MemPlace} (tS tE : TypeId) (sz : Nat) (hsz : 0 < sz) (hu : Tryz.prog.underlying tS = some (.slice tE)) (hc : Tryz.prog.cellsOf tE = sz) (f : α → List Value) (hf : ∀ e, (f e).length = sz) (P : α → Prop)
    (each : ∀ {fuel : Nat} {cs : List Value} {x : DataW H × List MemPlace}, cs.length = sz → DataW.trod enc Tryz.prog w 0 (fun _ => true) true fuel tE cs = some x → ∃ e, P e ∧ cs = f e)
    (h : DataW.trod enc Tryz.prog w 0 (fun _ => true) true fuel tS [v] = some x) : ∃ a n c, v = .slice a n c ∧ n ≤ 9223372036854775807 ∧ c ≤ 9223372036854775807 ∧ ∃ es : List α, (∀ e, e ∈ es → P e) ∧ Sl w sz a n c (es.flatMap f) := by
  rcases Go.Deep.open_slice hu h with ⟨hcs, _⟩ | ⟨ad, len, cap, m, nf, D, Pl, hcs, _, hl, hm, hmm, _, hx⟩
  · simp only [List.cons.injEq, and_true] at hcs
    exact ⟨none, 0, 0, hcs, Nat.zero_le _, Nat.zero_le _, [], (fun e he => absurd he (by simp)), Sl.nil w sz⟩
  · simp only [List.cons.injEq, and_true] at hcs
    refine ⟨some ad, len, cap, hcs, by unfold maxLen at hm; omega, by unfold maxLen at hm; omega, ?_⟩
    rw [hc] at hx
    simp only [if_true] at hmm
    have each2 : ∀ i, i < len → ∃ e : α, P e ∧ ∀ j u, (f e)[j]? = some u → w.cell? (ad.add (i * sz + j)) = some u := by
      intro i hi
      obtain ⟨cs', h1, h2⟩ := hx i (by omega)
      obtain ⟨_, hlen, hat⟩ := World.cells?_some h1
      obtain ⟨e, hp, rfl⟩ := each hlen h2
      refine ⟨e, hp, fun j u hj => ?_⟩
      have hjl : j < sz := by have := (List.getElem?_eq_some_iff.1 hj).1; rwa [hf] at this
      rw [← addr_add_add, hat j hjl, hj]
    obtain ⟨y, hy⟩ := Go.Deep.choose_lt each2
    refine ⟨(List.range len).map y, fun e he => ?_, ⟨fun j u hj => ⟨ad, rfl, ?_⟩, by rw [flatMap_len f sz hf]; simp, hl, fun h => by cases h⟩⟩
    · simp only [List.mem_map, List.mem_range] at he
      obtain ⟨i, hi, rfl⟩ := he
      exact (hy i hi).1
    · obtain ⟨e, he, hu⟩ := flatMap_inv f sz hsz hf _ j u hj
      rw [List.getElem?_map] at he
      by_cases hjn : j / sz < len
      · rw [List.getElem?_range hjn] at he
        simp only [Option.map_some, Option.some.injEq] at he
        subst he
        have := (hy (j / sz) hjn).2 (j % sz) u hu
        rwa [Nat.div_add_mod' j sz] at this
      · rw [List.getElem?_eq_none (by simp; omega)] at he; simp at he
theorem int_range {x : Int} (w : (Lit.int .i64 x).wf = true) : -9223372036854775808 ≤ x ∧ x ≤ 9223372036854775807 := by
  simp [Lit.wf, IntKind.min, IntKind.max, IntKind.signed, IntKind.bits] at w
  omega
end Go.Proofs.YtemegkapmgcffaaGreat

/- Bytes and whole numbers that came in, in the words of Sl. -/
namespace Go.Proofs.YtemegkapmgcffaaGreat
open Go.RowKit Go.ChangeShapes Go.WideShapes

theorem bytes_of_ints (zs : List Int) (h : ∀ n ∈ zs, (Lit.int .u8 n).wf = true) : ∃ l : List UInt8, zs.map (Value.int .u8) = bytesV l := by
  induction zs with
  | nil => exact ⟨[], rfl⟩
  | cons z zs ih =>
    obtain ⟨l, hl⟩ := ih (fun n hn => h n (List.mem_cons_of_mem _ hn))
    have hz := h z (List.mem_cons_self ..)
    have hz2 : 0 ≤ z ∧ z ≤ 255 := by
      simp [Lit.wf, IntKind.min, IntKind.max, IntKind.signed, IntKind.bits] at hz; omega
    refine ⟨UInt8.ofNat z.toNat :: l, ?_⟩
    have e : ((UInt8.ofNat z.toNat).toNat : Int) = z := by
      rw [UInt8.toNat_ofNat']; omega
    simp only [List.map_cons, bytesV, byteV, e]
    rw [hl]; rfl
theorem sl_of_rowK {k : IntKind} {w : World} {a : Option Addr} {len cap : Nat} {zs : List Int}
    (h : (a = none ∧ len = 0 ∧ cap = 0 ∧ zs = []) ∨ ∃ x, a = some x ∧ len ≤ cap ∧ cap ≤ maxLen ∧ zs.length = cap ∧ (∀ i, i < zs.length → w.cell? (x.add i) = some (.int k (zs.getD i 0))) ∧ ∀ n ∈ zs, (Lit.int k n).wf = true) :
    ∃ l : List Int, Sl w 1 a len cap (l.map (Value.int k)) ∧ len ≤ 9223372036854775807 ∧ ∀ n ∈ l, (Lit.int k n).wf = true := by
  rcases h with ⟨rfl, rfl, rfl, rfl⟩ | ⟨x, rfl, hl, hm, hz, hcell, hwz⟩
  · exact ⟨[], Sl.nil w 1, by omega, by simp⟩
  · refine ⟨zs.take len, ⟨?_, ?_, hl, fun h => by cases h⟩, by unfold maxLen at hm; omega, fun n hn => hwz n (List.mem_of_mem_take hn)⟩
    · intro j u hj
      rw [List.getElem?_map] at hj
      cases hj2 : (zs.take len)[j]? with
      | none => rw [hj2] at hj; simp at hj
      | some z =>
        rw [hj2] at hj; simp at hj; subst hj
        rw [List.getElem?_take] at hj2
        split at hj2
        · refine ⟨x, rfl, ?_⟩
          rw [hcell j (List.getElem?_eq_some_iff.1 hj2).1, List.getD_eq_getElem?_getD, hj2]; rfl
        · cases hj2
    · simp; omega
theorem u8_range {b : Int} (h : (Lit.int .u8 b).wf = true) : 0 ≤ b ∧ b ≤ 255 := by
  simp [Lit.wf, IntKind.min, IntKind.max, IntKind.signed, IntKind.bits] at h
  omega
theorem u16_range {b : Int} (h : (Lit.int .u16 b).wf = true) : 0 ≤ b ∧ b ≤ 65535 := by
  simp [Lit.wf, IntKind.min, IntKind.max, IntKind.signed, IntKind.bits] at h
  omega
def I64 (l : List Int) : Prop := ∀ x, x ∈ l → -9223372036854775808 ≤ x ∧ x ≤ 9223372036854775807
def intsV (l : List Int) : List Value := l.map fun x => .int .i64 x
section
variable {H : Type} {enc : TypeId × Value → H} {w : World} {fuel : Nat} {v : Value} {x : DataW H × List MemPlace}
theorem bytes_open (h : DataW.trod enc Tryz.prog w 0 (fun _ => true) true fuel 34 [v] = some x) : ∃ a n c, v = .slice a n c ∧ ∃ l : List UInt8, Sl w 1 a n c (bytesV l) ∧ n ≤ 9223372036854775807 := by
  rcases open_ints Tryz.underlying34 Tryz.underlying5 (by kernel_rfl) h with ⟨hcs, _⟩ | ⟨ad, l, c, zs, hcs, _, hl, hm, hz, _, hcell, hwz⟩
  · simp only [List.cons.injEq, and_true] at hcs
    exact ⟨none, 0, 0, hcs, [], Sl.nil w 1, by omega⟩
  · simp only [List.cons.injEq, and_true] at hcs
    obtain ⟨l2, h1, h2, h3⟩ := sl_of_rowK (k := .u8) (zs := zs) (a := some ad) (len := l) (cap := c) (w := w) (.inr ⟨_, rfl, hl, hm, by simpa using hz, hcell, hwz⟩)
    obtain ⟨l3, h4⟩ := bytes_of_ints l2 h3
    rw [h4] at h1
    exact ⟨_, _, _, hcs, l3, h1, h2⟩
end
/-- a deed that came in, and where its slices lie -/
structure Ded where
  op : Int
  a : List UInt8
  t2 : List UInt8
  b : List UInt8
  n : Int
  ks : List Int
  ts : List Int
  bA : Option Addr
  bc : Nat
  kA : Option Addr
  kc : Nat
  tA : Option Addr
  tc : Nat
def dedC (d : Ded) : List Value := [.int .u8 d.op, .string (bstr d.a), .string (bstr d.t2), .slice d.bA d.b.length d.bc, .int .i64 d.n, .slice d.kA d.ks.length d.kc, .slice d.tA d.ts.length d.tc]
def flatD (es : List Ded) : List Value := es.flatMap dedC
structure OkDed (w : World) (d : Ded) : Prop where
  op : 0 ≤ d.op ∧ d.op ≤ 255
  a : d.a.length ≤ 9223372036854775807
  t2 : d.t2.length ≤ 9223372036854775807
  b : Sl w 1 d.bA d.b.length d.bc (bytesV d.b) ∧ d.b.length ≤ 9223372036854775807
  n : -9223372036854775808 ≤ d.n ∧ d.n ≤ 9223372036854775807
  ks : Sl w 1 d.kA d.ks.length d.kc (intsV d.ks) ∧ d.ks.length ≤ 9223372036854775807 ∧ I64 d.ks
  ts : Sl w 1 d.tA d.ts.length d.tc (intsV d.ts) ∧ d.ts.length ≤ 9223372036854775807 ∧ I64 d.ts
theorem sl_n {w : World} {A : Option Addr} {n c : Nat} {l : List Int} (h : Sl w 1 A n c (intsV l)) : l.length = n := by have := h.len; simpa [intsV] using this
theorem OkDed.below {w w' : World} {d : Ded} (h : OkDed w d) (hb : Below w.heap.size w w') : OkDed w' d := ⟨h.op, h.a, h.t2, ⟨h.b.1.below hb, h.b.2⟩, h.n, ⟨h.ks.1.below hb, h.ks.2⟩, ⟨h.ts.1.below hb, h.ts.2⟩⟩
end Go.Proofs.YtemegkapmgcffaaGreat
