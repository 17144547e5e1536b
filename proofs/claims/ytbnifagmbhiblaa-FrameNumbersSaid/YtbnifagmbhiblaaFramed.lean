import Derived.Test.YtbnifagmbhiblaaFrameLaw
import Derived.Deep.CutBlock
import Derived.Deep.DeepCutAuto
namespace Go.Proofs.Ytbnifagmbhiblaa
open Go.RowKit
set_option linter.unusedSimpArgs false
set_option linter.unusedVariables false

/-- slices of bytes that lie behind one another, each with what it holds -/
structure Ls (w : World) (A : Option Addr) (n c : Nat) (qs : List Part) : Prop where
  sl : Sl w 1 A n c (qs.map Part.v)
  each : ∀ q ∈ qs, Sl w 1 q.A q.n q.c (bytesV q.l)
theorem Ls.below {w w' : World} {A : Option Addr} {n c : Nat} {qs : List Part} (h : Ls w A n c qs) (hb : Below w.heap.size w w') : Ls w' A n c qs :=
  ⟨h.sl.below hb, fun q hq => (h.each q hq).below hb⟩
theorem Ls.len {w : World} {A : Option Addr} {n c : Nat} {qs : List Part} (h : Ls w A n c qs) : qs.length = n := by have := h.sl.len; simpa using this
theorem Ls.at_ {w : World} {A : Option Addr} {n c : Nat} {qs : List Part} (h : Ls w A n c qs) {k : Nat} {q : Part} (hk : qs[k]? = some q) :
    (∃ ad, A = some ad ∧ w.cell? (ad.add k) = some (.slice q.A q.n q.c)) ∧ Sl w 1 q.A q.n q.c (bytesV q.l) := by
  refine ⟨?_, h.each q (List.mem_of_getElem? hk)⟩
  exact h.sl.cells k q.v (by simp [hk])

/-- different blocks -/
def Sep (A B : Option Addr) : Prop := ∀ a b, A = some a → B = some b → a.block ≠ b.block
theorem Sep.symm {A B : Option Addr} (h : Sep A B) : Sep B A := fun a b ha hb e => h b a hb ha e.symm
theorem Sep.none (A : Option Addr) : Sep none A := fun a b ha => by cases ha
/-- behind an append the row lies apart from a row that was there -/
theorem Sep.from_ {w : World} {A A' B : Option Addr} (h : Sep A B) (hf : From w A A') (hB : ∀ b, B = some b → b.block < w.heap.size) : Sep A' B := by
  intro a' b ha hb e
  rcases hf a' ha with ⟨a, h1, h2⟩ | hn
  · exact h a b h1 hb (h2.trans e)
  · have := hB b hb; omega
theorem Sep.row {A B : Option Addr} {base : Nat} (h : Sep A B) : ∀ ad, B = some ad → some ad.block ≠ rowOf base A := by
  intro ad hb e
  cases A with
  | none => simp [rowOf] at e
  | some a =>
    by_cases hba : base ≤ a.block
    · rw [rowOf_some hba] at e
      exact h a ad rfl hb (by simpa using e.symm)
    · rw [rowOf_lt (by omega)] at e; cases e

/-- the bodies that are framed: of the first 20 those of 1 to 200 bytes -/
def good (qs : List Part) : List Part := (qs.take 20).filter fun q => decide (0 < q.n) && decide (q.n ≤ 200)
/-- the frames, one behind the other -/
def frames (qs : List Part) : List UInt8 := qs.flatMap fun q => frm q.l
/-- where each ends -/
def endsOf : Nat → List Part → List Nat
  | _, [] => []
  | at_, q :: r => (at_ + (frm q.l).length) :: endsOf (at_ + (frm q.l).length) r
def intV (n : Nat) : Value := .int .i64 (n : Int)
theorem endsOf_snoc (qs : List Part) (q : Part) : ∀ at_, endsOf at_ (qs ++ [q]) = endsOf at_ qs ++ [at_ + (frames (qs ++ [q])).length] := by
  induction qs with
  | nil => intro at_; simp [endsOf, frames]
  | cons p r ih => intro at_; simp only [List.cons_append, endsOf, ih]; simp [frames]; omega
theorem endsOf_len (qs : List Part) : ∀ at_, (endsOf at_ qs).length = qs.length := by
  induction qs with
  | nil => intro at_; rfl
  | cons p r ih => intro at_; simp [endsOf, ih]
theorem frames_snoc (qs : List Part) (q : Part) : frames (qs ++ [q]) = frames qs ++ frm q.l := by simp [frames]
def goodB (q : Part) : Bool := decide (0 < q.n) && decide (q.n ≤ 200)
def goods (qs : List Part) (k : Nat) : List Part := (qs.take k).filter goodB
theorem goods_yes {qs : List Part} {k : Nat} {q : Part} (hk : qs[k]? = some q) (h : goodB q = true) : goods qs (k + 1) = goods qs k ++ [q] := by
  have hkl := (List.getElem?_eq_some_iff.1 hk).1
  have hx := (List.getElem?_eq_some_iff.1 hk).2
  unfold goods
  rw [List.take_succ_eq_append_getElem hkl, List.filter_append, hx]
  simp [h]
theorem goods_no {qs : List Part} {k : Nat} {q : Part} (hk : qs[k]? = some q) (h : goodB q = false) : goods qs (k + 1) = goods qs k := by
  have hkl := (List.getElem?_eq_some_iff.1 hk).1
  have hx := (List.getElem?_eq_some_iff.1 hk).2
  unfold goods
  rw [List.take_succ_eq_append_getElem hkl, List.filter_append, hx]
  simp [h]
theorem goods_len (qs : List Part) (k : Nat) : (goods qs k).length ≤ k := by
  unfold goods
  exact Nat.le_trans (List.length_filter_le _ _) (by simp; omega)
theorem goods_good (qs : List Part) (k : Nat) : ∀ q ∈ goods qs k, goodB q = true ∧ q ∈ qs := by
  intro q hq
  unfold goods at hq
  rw [List.mem_filter] at hq
  exact ⟨hq.2, List.mem_of_mem_take hq.1⟩
theorem infoSlice : (Try.prog.info? 26).map (fun i => (i.zero, i.size, i.bytes)) = some (some (.slice none 0 0), 1, 24) := by kernel_rfl
theorem infoInt : (Try.prog.info? 3).map (fun i => (i.zero, i.size, i.bytes)) = some (some (.int .i64 0), 1, 8) := by kernel_rfl
theorem frames_len_le : ∀ qs : List Part, (∀ q ∈ qs, q.l.length ≤ 200) → (frames qs).length ≤ 215 * qs.length
  | [], _ => by simp [frames]
  | q :: r, h => by
    have h1 := frames_len_le r (fun p hp => h p (List.mem_cons_of_mem _ hp))
    have h2 := h q (List.mem_cons_self ..)
    have h3 := uv_len_ten q.l.length (by omega)
    have h4 := frm_len q.l
    simp only [frames, List.flatMap_cons, List.length_append, List.length_cons] at h1 ⊢
    omega
end Go.Proofs.Ytbnifagmbhiblaa
