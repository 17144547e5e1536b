import Derived.WalkKit
import Derived.WalkSpells
import Derived.WalkLawsBesides
import Derived.Lib.Hide
import Derived.ArgAppend
import Derived.Laws.AppendOwnNone
import Derived.Lib.ConvBytes
import Derived.Maps.AppendAt
import Derived.Laws.CopyOwn
import Derived.Laws.Slices
import Derived.Orders
import Derived.Test.YtemegkapmgcffaaGreatProg
import Derived.Deep.MidRow
import Derived.Deep.CutBlock
import Derived.Deep.DeepCutAuto
import Derived.StillTailTactics
import Derived.Laws.OwnMore
import Derived.Lib.BufferMore
import Derived.Laws.BytesArg
import Derived.Lib.MinMax
import Derived.Lib.SlBytesConst
import Derived.Lib.AppendZerosOnto
import Derived.Lib.Overlaps
import Derived.Laws.Externs
import Derived.Deep.RegionLaw
/- Words for the walks: what lies in memory, said of lists; the laws of append, make, conversions in these words. No program in sight. -/
namespace Go.Proofs.YtemegkapmgcffaaGreat
open Go.RowKit

theorem ret_int {k : IntKind} {a b : Int} (h : a = b) : Ending.returned (.int k a) = .returned (.int k b) := by rw [h]

/-- the cells of a list lie at an address, one behind the other -/
def Cells (w : World) (A : Option Addr) (cs : List Value) : Prop :=
  ∀ j u, cs[j]? = some u → ∃ ad, A = some ad ∧ w.cell? (ad.add j) = some u

theorem add_block (ad : Addr) (j : Nat) : (ad.add j).block = ad.block := by unfold Addr.add; split <;> rfl

theorem Cells.nil (w : World) (A : Option Addr) : Cells w A [] := fun j u h => by simp at h
/-- where the block stays, the cells stay -/
theorem Cells.block {w w' : World} {A : Option Addr} {cs : List Value} (h : Cells w A cs)
    (hb : ∀ ad, A = some ad → ad.block < w.heap.size → w'.heap[ad.block]? = w.heap[ad.block]?) : Cells w' A cs := by
  intro j u hj
  obtain ⟨ad, rfl, hc⟩ := h j u hj
  refine ⟨ad, rfl, ?_⟩
  have hlt := World.block_lt_of_cell? w _ hc
  rw [add_block] at hlt
  exact (World.cell?_of_block (by rw [add_block]; exact hb ad rfl hlt)).trans hc
theorem Cells.below {w w' : World} {A : Option Addr} {cs : List Value} (h : Cells w A cs) (hb : Below w.heap.size w w') : Cells w' A cs :=
  h.block fun _ _ hlt => hb.block _ hlt
theorem Cells.grown {w w' : World} {A : Option Addr} {cs : List Value} {row : Option Nat} (h : Cells w A cs) (hg : w.grownBy w' row)
    (hne : ∀ ad, A = some ad → some ad.block ≠ row) : Cells w' A cs :=
  h.block fun ad ha hlt => hg.block _ hlt (hne ad ha)
theorem Cells.alloc {w : World} {A : Option Addr} {cs : List Value} (h : Cells w A cs) (o : Obj) : Cells (w.alloc o) A cs :=
  h.below ((Below.refl _ _).alloc (Nat.le_refl _) o)
theorem Cells.drew {w : World} {A : Option Addr} {cs : List Value} (h : Cells w A cs) : Cells w.drew A cs := h
/-- a slice that can be read: its address, length, capacity, what it holds -/
structure Sl (w : World) (size : Nat) (A : Option Addr) (n c : Nat) (cs : List Value) : Prop where
  cells : Cells w A cs
  len : cs.length = n * size
  le : n ≤ c
  none : A = Option.none → n = 0 ∧ c = 0

theorem Sl.block {w w' : World} {size n c : Nat} {A : Option Addr} {cs : List Value} (h : Sl w size A n c cs)
    (hb : ∀ ad, A = some ad → ad.block < w.heap.size → w'.heap[ad.block]? = w.heap[ad.block]?) : Sl w' size A n c cs := ⟨h.cells.block hb, h.len, h.le, h.none⟩
theorem Sl.below {w w' : World} {size n c : Nat} {A : Option Addr} {cs : List Value} (h : Sl w size A n c cs) (hb : Below w.heap.size w w') : Sl w' size A n c cs :=
  ⟨h.cells.below hb, h.len, h.le, h.none⟩
theorem Sl.grown {w w' : World} {size n c : Nat} {A : Option Addr} {cs : List Value} {row : Option Nat} (h : Sl w size A n c cs) (hg : w.grownBy w' row)
    (hne : ∀ ad, A = some ad → some ad.block ≠ row) : Sl w' size A n c cs := ⟨h.cells.grown hg hne, h.len, h.le, h.none⟩
theorem Sl.nil (w : World) (size : Nat) : Sl w size Option.none 0 0 [] := ⟨Cells.nil _ _, by simp, Nat.le_refl _, fun _ => ⟨rfl, rfl⟩⟩

theorem ownsRow_sl {w : World} {base size n c : Nat} {e : TypeId} {A : Option Addr} {cs : List Value} (h : w.ownsRow base e size (.slice A n c) n cs) : Sl w size A n c cs := by
  refine ⟨?_, h.1, ?_, ?_⟩
  · intro j u hj
    rcases h.2 with ⟨hv, hn⟩ | ⟨g, cap, cur, hv, _⟩
    · have := h.1; subst hn; simp at this; subst this; simp at hj
    · simp only [Value.slice.injEq] at hv
      obtain ⟨rfl, _, rfl⟩ := hv
      exact ⟨_, rfl, h.cells rfl j u hj⟩
  · rcases h.2 with ⟨hv, hn⟩ | ⟨g, cap, cur, hv, _, _, hle, _⟩
    · omega
    · simp only [Value.slice.injEq] at hv; obtain ⟨_, _, rfl⟩ := hv; exact hle
  · intro hA
    rcases h.2 with ⟨hv, hn⟩ | ⟨g, cap, cur, hv, _⟩
    · simp only [Value.slice.injEq] at hv; exact ⟨hn, hv.2.2⟩
    · simp only [Value.slice.injEq] at hv; rw [hv.1] at hA; cases hA

/-- the block that may be written where a slice is appended to -/
def rowOf (base : Nat) (A : Option Addr) : Option Nat := A.bind fun a => if base ≤ a.block then some a.block else none
theorem rowOf_ge {base : Nat} {A : Option Addr} {k : Nat} (h : rowOf base A = some k) : base ≤ k := by
  unfold rowOf at h
  cases A with
  | none => simp at h
  | some a => simp at h; omega
theorem rowOf_some {base : Nat} {a : Addr} (h : base ≤ a.block) : rowOf base (some a) = some a.block := by simp [rowOf, h]
/-- a slice that can be appended to: it is the call's own (from block base on), or it is full -/
def App (base : Nat) (e : TypeId) (size : Nat) (w : World) (A : Option Addr) (n c : Nat) (cs : List Value) : Prop :=
  w.ownsRow base e size (.slice A n c) n cs ∨ (Sl w size A n c cs ∧ n = c)

section
variable {base size n c : Nat} {e : TypeId} {w : World} {A : Option Addr} {cs : List Value}
theorem App.sl (h : App base e size w A n c cs) : Sl w size A n c cs := by
  rcases h with h | h
  · exact ownsRow_sl h
  · exact h.1
theorem App.nil (base : Nat) (e : TypeId) (size : Nat) (w : World) : App base e size w none 0 0 [] := .inl (World.ownsRow_nil _ _ _ _)
theorem App.kept {w' : World} {row : Option Nat} (h : App base e size w A n c cs) (hg : w.grownBy w' row) (hne : ∀ ad, A = some ad → some ad.block ≠ row) : App base e size w' A n c cs := by
  rcases h with h | h
  · refine .inl (h.kept hg ?_)
    cases A with
    | none => exact .inl rfl
    | some a => exact .inr (hne a rfl)
  · exact .inr ⟨h.1.grown hg hne, h.2⟩
theorem App.below {w' : World} (h : App base e size w A n c cs) (hb : Below w.heap.size w w') : App base e size w' A n c cs :=
  h.kept (row := none) ⟨hb.os, hb.tape, hb.output, hb.size, fun i hi _ => hb.block i hi⟩ (fun _ _ => by simp)
theorem App.alloc (h : App base e size w A n c cs) (o : Obj) : App base e size (w.alloc o) A n c cs := h.below ((Below.refl _ _).alloc (Nat.le_refl _) o)
theorem App.drew (h : App base e size w A n c cs) : App base e size w.drew A n c cs := h.below ((Below.refl _ _).drew)
theorem App.lower {base' : Nat} (h : App base e size w A n c cs) (hb : base' ≤ base) : App base' e size w A n c cs := by
  rcases h with h | h
  · refine .inl ⟨h.1, ?_⟩
    rcases h.2 with h | ⟨g, cap, cur, a, b, r⟩
    · exact .inl h
    · exact .inr ⟨g, cap, cur, a, by omega, r⟩
  · exact .inr h
end

theorem grownBy_none_row {w w' : World} (h : w.grownBy w' none) (row : Option Nat) : w.grownBy w' row := ⟨h.os, h.tape, h.output, h.size, fun k hk _ => h.block k hk (by simp)⟩
theorem grownBy_below {w w' : World} (h : w.grownBy w' none) : Below w.heap.size w w' := ⟨h.os, h.tape, h.output, h.size, fun k hk => h.block k hk (by simp)⟩
theorem below_grownBy {w w' : World} (h : Below w.heap.size w w') (row : Option Nat) : w.grownBy w' row := ⟨h.os, h.tape, h.output, h.size, fun k hk _ => h.block k hk⟩
theorem grownBy_trans {w w1 w2 : World} {row : Option Nat} (h : w.grownBy w1 row) (k : w1.grownBy w2 row) : w.grownBy w2 row :=
  ⟨k.os.trans h.os, k.tape.trans h.tape, k.output.trans h.output, Nat.le_trans h.size k.size, fun i hi hr => (k.block i (Nat.lt_of_lt_of_le hi h.size) hr).trans (h.block i hi hr)⟩
/-- a second step that writes another row, one that is new -/
theorem grownBy_trans' {w w1 w2 : World} {row row1 : Option Nat} (h : w.grownBy w1 row) (k : w1.grownBy w2 row1) (hr : row1 = row ∨ ∀ b, row1 = some b → w.heap.size ≤ b) : w.grownBy w2 row :=
  ⟨k.os.trans h.os, k.tape.trans h.tape, k.output.trans h.output, Nat.le_trans h.size k.size, fun i hi hne => by
    refine (k.block i (Nat.lt_of_lt_of_le hi h.size) ?_).trans (h.block i hi hne)
    rcases hr with rfl | hr
    · exact hne
    · intro e; have := hr i e.symm; omega⟩

theorem run_append_zero {P : Program} (w : World) (t ty e : TypeId) (i : TypeInfo) (ht : P.underlying t = some (.slice e)) (hi : P.info? e = some i)
    (a : Addr) (n c : Nat) (hc : n ≤ c) (B : Option Addr) (c' : Nat) :
    (Builtin.append_ #[t, t] ty #[.slice (some a) n c, .slice B 0 c']).run P w = .ok (.slice (some a) n c) w := by
  cases B <;> simp [Builtin.append_, run_underlying ht, sizeOf, typeInfo, hi, Builtin.lenOf, Builtin.firstCells, hc, storeCells, loadCells, loadCellsFrom]

/-- where a slice lies behind appends: where it lay, or in new memory -/
def From (w : World) (A A' : Option Addr) : Prop := ∀ a', A' = some a' → (∃ a, A = some a ∧ a.block = a'.block) ∨ w.heap.size ≤ a'.block
theorem From.refl (w : World) (A : Option Addr) : From w A A := fun a h => .inl ⟨a, h, rfl⟩
theorem From.trans {w w1 : World} {A A1 A2 : Option Addr} (h : From w A A1) (k : From w1 A1 A2) (hs : w.heap.size ≤ w1.heap.size) : From w A A2 := by
  intro a2 h2
  rcases k a2 h2 with ⟨a1, h1, e1⟩ | hn
  · rcases h a1 h1 with ⟨a, ha, e⟩ | hn
    · exact .inl ⟨a, ha, e.trans e1⟩
    · exact .inr (by omega)
  · exact .inr (by omega)
theorem From.row {w : World} {base : Nat} {A A' : Option Addr} (h : From w A A') : rowOf base A' = rowOf base A ∨ ∀ b, rowOf base A' = some b → w.heap.size ≤ b := by
  cases A' with
  | none => exact .inr (fun b hb => by simp [rowOf] at hb)
  | some a' =>
    rcases h a' rfl with ⟨a, rfl, e⟩ | hn
    · exact .inl (by simp [rowOf, e])
    · exact .inr (fun b hb => by simp [rowOf] at hb; omega)
theorem From.none (w : World) (A : Option Addr) : From w A Option.none := fun a h => by cases h

/-- behind appends to a slice: it can be appended to; its own row alone was written; where it lies -/
structure AppTo (base : Nat) (e : TypeId) (size : Nat) (w w' : World) (A A' : Option Addr) (n c : Nat) (cs : List Value) : Prop where
  app : App base e size w' A' n c cs
  grown : w.grownBy w' (rowOf base A)
  lies : From w A A'

theorem AppTo.refl {base : Nat} {e : TypeId} {size : Nat} {w : World} {A : Option Addr} {n c : Nat} {cs : List Value} (h : App base e size w A n c cs) : AppTo base e size w w A A n c cs :=
  ⟨h, World.grownBy.refl _ _, From.refl _ _⟩
theorem AppTo.trans {base : Nat} {e : TypeId} {size : Nat} {w w1 w2 : World} {A A1 A2 : Option Addr} {n1 c1 n2 c2 : Nat} {cs1 cs2 : List Value}
    (h : AppTo base e size w w1 A A1 n1 c1 cs1) (k : AppTo base e size w1 w2 A1 A2 n2 c2 cs2) : AppTo base e size w w2 A A2 n2 c2 cs2 :=
  ⟨k.app, grownBy_trans' h.grown k.grown h.lies.row, h.lies.trans k.lies h.grown.size⟩
/-- something new is made in between -/
theorem AppTo.after {base : Nat} {e : TypeId} {size : Nat} {w w1 w2 : World} {A A2 : Option Addr} {n2 c2 : Nat} {cs2 : List Value}
    (h : Below w.heap.size w w1) (k : AppTo base e size w1 w2 A A2 n2 c2 cs2) : AppTo base e size w w2 A A2 n2 c2 cs2 :=
  ⟨k.app, grownBy_trans (below_grownBy h _) k.grown, (From.refl w A).trans k.lies h.size⟩
theorem AppTo.below {base : Nat} {e : TypeId} {size : Nat} {w w1 : World} {A A1 : Option Addr} {n1 c1 : Nat} {cs1 : List Value}
    (h : AppTo base e size w w1 A A1 n1 c1 cs1) (hb : base ≤ w.heap.size) : Below base w w1 :=
  (Below.refl _ _).grown h.grown hb (fun _ hk => rowOf_ge hk)

/-- append, in these words -/
theorem run_app {P : Program} (w : World) (base : Nat) (t ty e : TypeId) (z : Value) (size bytes : Nat) (ht : P.underlying t = some (.slice e))
    (hinfo : (P.info? e).map (fun i => (i.zero, i.size, i.bytes)) = some (some z, size, bytes)) (hzs : z.cells.size = size) (hsz : 0 < size)
    (A : Option Addr) (n c : Nat) (xs : List Value) (happ : App base e size w A n c xs)
    (B : Option Addr) (m c' : Nat) (news : List Value) (hsl : Sl w size B m c' news) (h1 : ∀ u ∈ news, u.oneCell' = true)
    (h63 : n + m ≤ maxLen) (hbytes : (n + m) * bytes ≤ 140737488355328) (hbase : base ≤ w.heap.size) :
    ∃ A' d w', (Builtin.append_ #[t, t] ty #[.slice A n c, .slice B m c']).run P w = .ok (.slice A' (n + m) d) w' ∧
      AppTo base e size w w' A A' (n + m) d (xs ++ news) := by
  obtain ⟨i, hi, hz, hs, hb⟩ := info_parts hinfo
  by_cases hown : w.ownsRow base e size (.slice A n c) n xs
  · have hrow : (Value.slice A n c).ownBlock = rowOf base A := by
      cases A with
      | none => rfl
      | some a => rw [rowOf_some (hown.lt a.block rfl).1]; rfl
    cases B with
    | none =>
      obtain ⟨rfl, rfl⟩ := hsl.none rfl
      have hn : news = [] := List.eq_nil_of_length_eq_zero (by simpa using hsl.len)
      subst hn
      have hrun := run_append_owned_none (P := P) (w := w) base t ty e i size ht hi _ n xs hown
      exact ⟨A, c, w, hrun, by rw [List.append_nil]; exact AppTo.refl (Or.inl hown)⟩
    | some b =>
      obtain ⟨v', w', hrun, h2, h3, h4, h5⟩ := run_append_own_at (P := P) w base t ty e i z size bytes ht hi hz hs hb hzs hsz (.slice A n c) n xs hown b m c' news hsl.len
        (fun j u hj => by obtain ⟨ad, e, h⟩ := hsl.cells j u hj; cases e; exact h) h1 h63 hbytes hbase
      have hv : ∃ A' d, v' = .slice A' (n + m) d := by
        rcases h2.2 with ⟨rfl, h0⟩ | ⟨g, cap, cur, rfl, _⟩
        · exact ⟨none, 0, by rw [h0]⟩
        · exact ⟨_, _, rfl⟩
      obtain ⟨A', d, rfl⟩ := hv
      refine ⟨A', d, w', hrun, .inl h2, hrow ▸ h3, ?_⟩
      intro a' ha'
      subst ha'
      rcases h5 with h5 | h5
      · cases A with
        | none => simp [Value.ownBlock] at h5
        | some a => exact .inl ⟨a, rfl, by simp [Value.ownBlock] at h5; exact h5.symm⟩
      · exact .inr (by simp [Value.ownBlock] at h5; omega)
  · obtain ⟨hf, hnc⟩ := happ.resolve_left hown
    subst hnc
    cases A with
    | none =>
      exfalso; apply hown
      obtain ⟨rfl, _⟩ := hf.none rfl
      have hx : xs = [] := List.eq_nil_of_length_eq_zero (by simpa using hf.len)
      subst hx
      exact World.ownsRow_nil _ _ _ _
    | some a =>
      by_cases hm : m = 0
      · subst hm
        have hn : news = [] := List.eq_nil_of_length_eq_zero (by simpa using hsl.len)
        subst hn
        refine ⟨some a, n, w, run_append_zero w t ty e i ht hi a n n (Nat.le_refl _) B c', ?_⟩
        rw [List.append_nil]; exact AppTo.refl (Or.inr ⟨hf, rfl⟩)
      · cases B with
        | none => exact absurd (hsl.none rfl).1 hm
        | some b =>
          obtain ⟨v', w', hrun, r1, r2⟩ := run_append_arg_grows (P := P) w t ty e i z size bytes ht hi hz hs hb hzs hsz a n n xs hf.len
            (fun j u hj => by obtain ⟨ad, e, h⟩ := hf.cells j u hj; cases e; exact h) b m c' news hsl.len
            (fun j u hj => by obtain ⟨ad, e, h⟩ := hsl.cells j u hj; cases e; exact h) (by omega) h63 hbytes
          have hv : ∃ A' d, v' = .slice A' (n + m) d := by
            rcases r1.2 with ⟨rfl, h0⟩ | ⟨g, cap, cur, rfl, _⟩
            · exact ⟨none, 0, by rw [h0]⟩
            · exact ⟨_, _, rfl⟩
          obtain ⟨A', d, rfl⟩ := hv
          exact ⟨A', d, w', hrun, (App.lower (.inl r1) hbase), grownBy_none_row r2 _, fun a' ha' => .inr (by subst ha'; exact (r1.lt a'.block rfl).1)⟩

theorem wpList_app {P : Program} (w : World) {ops : Array Oper} {rest : List Oper} {o : Oper} {a : Act} {Q : Exit → Act → World → Prop} (hgd : o.guard = none) (s x : Operand) (t : TypeId)
    (ho : o.op = .call { callee := .builtin .append, args := #[s, x], argTypes := #[t, t] })
    (base : Nat) (e : TypeId) (z : Value) (size bytes : Nat) (ht : P.underlying t = some (.slice e))
    (hinfo : (P.info? e).map (fun i => (i.zero, i.size, i.bytes)) = some (some z, size, bytes)) (hzs : z.cells.size = size) (hsz : 0 < size)
    (A : Option Addr) (n c : Nat) (xs : List Value) (hs : a.eval s = .slice A n c) (happ : App base e size w A n c xs)
    (B : Option Addr) (m c' : Nat) (news : List Value) (hx : a.eval x = .slice B m c') (hsl : Sl w size B m c' news) (h1 : ∀ u ∈ news, u.oneCell' = true)
    (h63 : n + m ≤ maxLen) (hbytes : (n + m) * bytes ≤ 140737488355328) (hbase : base ≤ w.heap.size)
    (h : ∀ A' d w', AppTo base e size w w' A A' (n + m) d (xs ++ news) → wpList P ops Q rest (a.put o.dst (.slice A' (n + m) d)) w') :
    wpList P ops Q (o :: rest) a w := by
  refine wpList_plain hgd fun K hK => ?_
  obtain ⟨A', d, w', hrun, h2⟩ := run_app (P := P) w base t o.type e z size bytes ht hinfo hzs hsz A n c xs happ B m c' news hsl h1 h63 hbytes hbase
  unfold Oper.wp
  simp [execOp, ho, resolve, invoke, builtin, hs, hx, hrun, Result.andThen]
  exact hK _ _ (h A' d w' h2)


/-- bytes as cells -/
def byteV (b : UInt8) : Value := .int .u8 (b.toNat : Int)
def bytesV (l : List UInt8) : List Value := l.map byteV
theorem bytesV_length (l : List UInt8) : (bytesV l).length = l.length := by simp [bytesV]
theorem bytesV_append (l m : List UInt8) : bytesV (l ++ m) = bytesV l ++ bytesV m := by simp [bytesV]
theorem bytesV_one (l : List UInt8) : ∀ u ∈ bytesV l, u.oneCell' = true := by
  intro u hu; simp [bytesV] at hu; obtain ⟨b, _, rfl⟩ := hu; rfl
section
variable {w : World} {A : Option Addr} {n c : Nat} {l : List UInt8}
theorem Sl.blen (h : Sl w 1 A n c (bytesV l)) : l.length = n := by have := h.len; rw [bytesV_length] at this; omega
theorem Sl.byte (h : Sl w 1 A n c (bytesV l)) (k : Nat) (hk : k < l.length) : ∃ ad, A = some ad ∧ w.cell? (ad.add k) = some (.int .u8 (l[k].toNat : Int)) :=
  h.cells k _ (by simp [bytesV, byteV, hk])
end
theorem Sl.byteAt {w : World} {A : Option Addr} {n c : Nat} {l : List UInt8} (h : Sl w 1 A n c (bytesV l)) {k : Nat} {x : UInt8} (hx : l[k]? = some x) : ∃ ad, A = some ad ∧ w.cell? (ad.add k) = some (.int .u8 (x.toNat : Int)) :=
  h.cells k _ (by simp [bytesV, byteV, hx])
theorem get_some {α : Type} (l : List α) (k : Nat) (h : k < l.length) : ∃ x, l[k]? = some x := ⟨l[k], by simp [h]⟩
theorem sl_one (w : World) (u : Value) (e : TypeId) : Sl (w.alloc (.cells #[u] e)) 1 (some ⟨w.heap.size, 0, none⟩) 1 1 [u] :=
  ⟨fun j x hj => ⟨_, rfl, cell_one_new w u e j x hj⟩, rfl, Nat.le_refl _, fun h => by cases h⟩
theorem below_alloc1 (w : World) (o : Obj) : Below w.heap.size w (w.alloc o) := (Below.refl _ _).alloc (Nat.le_refl _) o


/-- the same block -/
def SameBlk (A A' : Option Addr) : Prop := ∀ a', A' = some a' → ∃ a, A = some a ∧ a.block = a'.block
theorem SameBlk.refl (A : Option Addr) : SameBlk A A := fun a h => ⟨a, h, rfl⟩

section cuts
variable {P : Program}
theorem add_add (ad : Addr) (i j : Nat) : (ad.add i).add j = ad.add (i + j) := by
  unfold Addr.add
  by_cases h1 : i = 0 <;> by_cases h2 : j = 0 <;> simp [h1, h2, Nat.add_assoc]
theorem Cells.drop {w : World} {A : Option Addr} {cs : List Value} (h : Cells w A cs) (k : Nat) : Cells w (A.map (·.add k)) (cs.drop k) := by
  intro j u hj
  rw [List.getElem?_drop] at hj
  obtain ⟨ad, rfl, hc⟩ := h _ u hj
  exact ⟨ad.add k, rfl, by rw [add_add]; exact hc⟩
theorem Cells.take {w : World} {A : Option Addr} {cs : List Value} (h : Cells w A cs) (k : Nat) : Cells w A (cs.take k) := by
  intro j u hj
  rw [List.getElem?_take] at hj
  split at hj
  · exact h j u hj
  · cases hj
theorem Sl.from_ {w : World} {size n c : Nat} {A : Option Addr} {cs : List Value} (h : Sl w size A n c cs) (m : Nat) (hm : m ≤ n) :
    Sl w size (if c = m then A else A.map (·.add (m * size))) (n - m) (c - m) (cs.drop (m * size)) := by
  have hle := h.le
  refine ⟨?_, by rw [List.length_drop, h.len, Nat.sub_mul], by omega, ?_⟩
  · by_cases hc : c = m
    · have : cs.drop (m * size) = [] := List.drop_eq_nil_of_le (by rw [h.len, show n = m by omega]; exact Nat.le_refl _)
      rw [this]; exact Cells.nil _ _
    · rw [if_neg hc]; exact h.cells.drop _
  · intro hn
    have hA : A = Option.none := by
      by_cases hc : c = m
      · rw [if_pos hc] at hn; exact hn
      · rw [if_neg hc] at hn; simpa using hn
    have := h.none hA; omega
theorem sameBlk_from (A : Option Addr) (c m k : Nat) : SameBlk A (if c = m then A else A.map (·.add k)) := by
  intro a' ha'
  split at ha'
  · exact ⟨a', ha', rfl⟩
  · cases A with
    | none => simp at ha'
    | some a => simp at ha'; exact ⟨a, rfl, by rw [← ha', add_block]⟩
theorem Sl.to_ {w : World} {size n c : Nat} {A : Option Addr} {cs : List Value} (h : Sl w size A n c cs) (m : Nat) (hm : m ≤ n) :
    Sl w size A m c (cs.take (m * size)) := by
  refine ⟨h.cells.take _, ?_, by have := h.le; omega, fun hA => by have := h.none hA; omega⟩
  rw [List.length_take, h.len]
  exact Nat.min_eq_left (Nat.mul_le_mul_right _ hm)
theorem Sl.cap {w : World} {size n c c' : Nat} {A : Option Addr} {cs : List Value} (h : Sl w size A n c cs) (hc : n ≤ c') (h0 : c = 0 → c' = 0) : Sl w size A n c' cs :=
  ⟨h.cells, h.len, hc, fun hA => by have := h.none hA; exact ⟨this.1, h0 this.2⟩⟩

/-- xs[m:] -/
theorem cut_from (t e : TypeId) (kl : IntKind) {i : TypeInfo} (ht : P.underlying t = some (.slice e)) (hi : P.info? e = some i) (A : Option Addr) (n c m : Nat) (M : Int) (hM : M = (m : Int)) (hm : m ≤ n) :
    ∃ A' : Option Addr, (∀ W : World, (Instr.slice t (.slice A n c) (some (.int kl M)) none none).run P W = .ok (.slice A' (n - m) (c - m)) W) ∧ SameBlk A A' ∧
      ∀ (w : World) (cs : List Value), Sl w i.size A n c cs → Sl w i.size A' (n - m) (c - m) (cs.drop (m * i.size)) := by
  subst hM
  refine ⟨if c = m then A else A.map (·.add (m * i.size)), fun W => ?_, sameBlk_from _ _ _ _, fun w cs h => h.from_ m hm⟩
  have hel : P.elem t = e := by simp [Program.elem, ht]
  have hu : P.underlying t = some (.slice (P.elem t)) := by rw [hel]; exact ht
  rw [run_slice_l W t A n c hu kl (m : Int) (Int.natCast_nonneg _) (by omega), hel]
  simp [sizeOf, typeInfo, hi, sliced, Result.andThen]
/-- xs[:m] -/
theorem cut_to (t e : TypeId) (kl : IntKind) {i : TypeInfo} (ht : P.underlying t = some (.slice e)) (hi : P.info? e = some i) (A : Option Addr) (n c m : Nat) (M : Int) (hM : M = (m : Int)) (hm : m ≤ c) (W : World) :
    (Instr.slice t (.slice A n c) none (some (.int kl M)) none).run P W = .ok (.slice A m c) W := by
  subst hM
  have hel : P.elem t = e := by simp [Program.elem, ht]
  have hu : P.underlying t = some (.slice (P.elem t)) := by rw [hel]; exact ht
  have ha : (A.map fun x => x.add 0) = A := by cases A <;> simp [Addr.add]
  rw [run_slice_h W t A n c hu kl m (by omega) (by omega), hel]
  simp [sizeOf, typeInfo, hi, sliced, Result.andThen, ha]
/-- xs[l:m] -/
theorem cut_mid (t e : TypeId) (kl kh : IntKind) {i : TypeInfo} (ht : P.underlying t = some (.slice e)) (hi : P.info? e = some i) (A : Option Addr) (n c l m : Nat) (L M : Int) (hL : L = (l : Int)) (hM : M = (m : Int)) (hlm : l ≤ m) (hm : m ≤ n) (hc : n ≤ c) :
    ∃ A' : Option Addr, (∀ W : World, (Instr.slice t (.slice A n c) (some (.int kl L)) (some (.int kh M)) none).run P W = .ok (.slice A' (m - l) (c - l)) W) ∧ SameBlk A A' ∧
      ∀ (w : World) (cs : List Value), Sl w i.size A n c cs → Sl w i.size A' (m - l) (c - l) ((cs.take (m * i.size)).drop (l * i.size)) := by
  subst hL hM
  refine ⟨if c = l then A else A.map (·.add (l * i.size)), fun W => ?_, sameBlk_from _ _ _ _, fun w cs h => (h.to_ m hm).from_ l hlm⟩
  have hel : P.elem t = e := by simp [Program.elem, ht]
  have hu : P.underlying t = some (.slice (P.elem t)) := by rw [hel]; exact ht
  rw [run_slice_lh W t A n c hu kl kh l m (by omega) (by omega) (by omega), hel]
  simp [sizeOf, typeInfo, hi, sliced, Result.andThen]
end cuts

theorem SameBlk.none {A' : Option Addr} (h : SameBlk none A') : A' = none := by
  cases A' with
  | none => rfl
  | some a => obtain ⟨_, h, _⟩ := h a rfl; cases h
theorem SameBlk.trans {A B C : Option Addr} (h : SameBlk A B) (k : SameBlk B C) : SameBlk A C := by
  intro c hc
  obtain ⟨b, hb, e⟩ := k c hc
  obtain ⟨a, ha, e'⟩ := h b hb
  exact ⟨a, ha, e'.trans e⟩

/-- copy into a row of the call's own -/
theorem wpList_copy_row {P : Program} {w : World} {ops : Array Oper} {rest : List Oper} {o : Oper} {a : Act} {Q : Exit → Act → World → Prop} (hgd : o.guard = none) (dd ss : Operand) (dT sT : TypeId)
    (ho : o.op = .call { callee := .builtin .copy, args := #[dd, ss], argTypes := #[dT, sT] }) (e : TypeId) (hu : P.underlying dT = some (.slice e)) (hsz : (P.info? e).map (·.size) = some 1)
    (base : Nat) (A B : Option Addr) (n c m d : Nat) (xs ys : List Value) (hd : a.eval dd = .slice A n c) (hs : a.eval ss = .slice B m d)
    (hown : w.ownsRow base e 1 (.slice A n c) n xs) (hsl : Sl w 1 B m d ys) (h1 : ∀ v ∈ ys, v.oneCell' = true)
    (h : ∀ w', w'.ownsRow base e 1 (.slice A n c) n (ys.take (min m n) ++ xs.drop (min m n)) → w.grownBy w' (rowOf base A) → wpList P ops Q rest (a.put o.dst (.int .i64 ((min m n : Nat) : Int))) w') :
    wpList P ops Q (o :: rest) a w := by
  by_cases h0 : min m n = 0
  · refine wpList_copy_nothing hgd dd ss dT sT ho e hu hsz A B n c m d hd hs h0 ?_
    have := h w (by rw [h0]; simpa using hown) (World.grownBy.refl _ _)
    rw [h0] at this
    exact this
  · rcases hown.2 with ⟨hv, hn⟩ | ⟨g, cap, cur, hv, hbg, hg, hle, hcm, hcs, htake⟩
    · omega
    · simp only [Value.slice.injEq] at hv
      obtain ⟨rfl, _, rfl⟩ := hv
      cases B with
      | none => have := hsl.none rfl; omega
      | some b =>
        have hyl := hsl.len
        have hxl := hown.1
        simp only [Nat.mul_one] at hyl hxl hcs htake
        have htl : (ys.take (min m n)).length = min m n := by rw [List.length_take]; omega
        refine wpList_copy_own hgd dd ss dT sT ho e hu hsz g 0 n c b m d hd hs cur e hg (ys.take (min m n)) (by rw [htl])
          (fun j v hj => by obtain ⟨ad, h1, h2⟩ := (hsl.cells.take _) j v hj; cases h1; exact h2) (by rw [htl]; omega) (fun v hv => h1 v (List.mem_of_mem_take hv)) ?_
        rw [htl]
        refine h _ ?_ ?_
        · have hcl : cur.toList.length = c := by rw [Array.length_toList]; exact hcs
          refine ⟨by simp [hyl, hxl]; omega, .inr ⟨g, c, _, rfl, hbg, setRow_heap w g cur _ e _ hg, hle, hcm, ?_, ?_⟩⟩
          · simp [hyl]; omega
          · simp only [List.take_zero, List.nil_append, Nat.zero_add, Nat.mul_one]
            rw [← htake]
            apply List.ext_getElem?
            intro j
            simp only [List.getElem?_take, List.getElem?_append, List.getElem?_drop, htl]
            split
            · split
              · rfl
              · rw [if_pos (by omega)]
            · split
              · omega
              · rw [if_neg (by omega)]
        · rw [rowOf_some hbg]
          exact ⟨rfl, rfl, rfl, by simp [World.setRow], fun k _ hk => setRow_other w g k _ (fun e => hk (by simp [e]))⟩

end Go.Proofs.YtemegkapmgcffaaGreat

/- A region that draws its order, whose operations make new memory alone and whose values stay what they are behind new memory: one walk in the text's order serves every order. No program in sight. -/
namespace Go.Proofs.YtemegkapmgcffaaGreat
open Go.RowKit

section
variable {P : Program} {Q : Exit → Act → World → Prop}

/-- what later memory does not disturb -/
def Stable (T : Value → World → Prop) : Prop := ∀ v w w', Below w.heap.size w w' → T v w → T v w'

def waitsFor (o : Oper) (k : Nat) : Bool := o.after.any fun e => Region.binds .any e && e.on == k
def dstAt (l : List Oper) (j : Nat) : Option Tmp := (l[j]?).bind (·.dst)
/-- slot t is as it was when operation k comes up -/
def oldB (l : List Oper) (k t : Nat) : Bool := (List.range l.length).all fun j => dstAt l j != some t || (match l[j]? with | some o => waitsFor o k | none => true)
def okReg (l : List Oper) (n : Nat) : Bool := Region.noSelect l.toArray && (List.range l.length).all fun k => match l[k]? with
  | none => false
  | some o => (match o.dst with | some d => decide (d < n) | none => false) &&
    (List.range l.length).all (fun j => j == k || dstAt l j != o.dst) &&
    o.after.all (fun e => !Region.binds .any e || decide (e.on < k)) &&
    (o.looksAt l.toArray).all (fun t => oldB l k t || (List.range k).any (fun j => waitsFor o j && dstAt l j == some t))

/-- values, put where operations put them -/
def putL : List Oper → Nat → (Nat → Value) → Act → Act
  | [], _, _, a => a
  | o :: r, k, vs, a => putL r (k + 1) vs (a.put o.dst (vs k))

theorem put_size (a : Act) (d : Option Tmp) (v : Value) : (a.put d v).tmps.size = a.tmps.size := by cases d <;> simp [Act.put]
theorem put_defers (a : Act) (d : Option Tmp) (v : Value) : (a.put d v).defers = a.defers := by cases d <;> simp [Act.put]
theorem put_other (a : Act) (d : Option Tmp) (v : Value) (t : Nat) (h : d ≠ some t) : (a.put d v).tmps.getD t undef = a.tmps.getD t undef := by
  cases d with
  | none => rfl
  | some d =>
    have hd : d ≠ t := fun e => h (by rw [e])
    simp [Act.put, Array.getElem?_setIfInBounds_ne hd]
theorem put_at (a : Act) (d : Nat) (v : Value) (h : d < a.tmps.size) : (a.put (some d) v).tmps.getD d undef = v := by
  simp [Act.put, h]

theorem putL_size : ∀ (l : List Oper) (k : Nat) (vs : Nat → Value) (a : Act), (putL l k vs a).tmps.size = a.tmps.size
  | [], _, _, _ => rfl
  | o :: r, k, vs, a => by rw [putL, putL_size r, put_size]
theorem putL_defers : ∀ (l : List Oper) (k : Nat) (vs : Nat → Value) (a : Act), (putL l k vs a).defers = a.defers
  | [], _, _, _ => rfl
  | o :: r, k, vs, a => by rw [putL, putL_defers r, put_defers]
theorem putL_old : ∀ (l : List Oper) (k : Nat) (vs : Nat → Value) (a : Act) (t : Nat), (∀ j, dstAt l j ≠ some t) → (putL l k vs a).tmps.getD t undef = a.tmps.getD t undef
  | [], _, _, _, _, _ => rfl
  | o :: r, k, vs, a, t, h => by
    rw [putL, putL_old r _ _ _ t (fun j => by have := h (j + 1); simpa [dstAt] using this), put_other _ _ _ _ (by have := h 0; simpa [dstAt] using this)]
theorem putL_at : ∀ (l : List Oper) (k : Nat) (vs : Nat → Value) (a : Act) (j t : Nat), dstAt l j = some t → (∀ i, i ≠ j → dstAt l i ≠ some t) → t < a.tmps.size →
    (putL l k vs a).tmps.getD t undef = vs (k + j)
  | [], _, _, _, _, _, h, _, _ => by simp [dstAt] at h
  | o :: r, k, vs, a, 0, t, h, hu, ht => by
    rw [putL, putL_old r _ _ _ t (fun j => by have := hu (j + 1) (by omega); simpa [dstAt] using this)]
    have ho : o.dst = some t := by simpa [dstAt] using h
    rw [ho, put_at _ _ _ ht]; rfl
  | o :: r, k, vs, a, j + 1, t, h, hu, ht => by
    rw [putL, putL_at r (k + 1) vs _ j t (by simpa [dstAt] using h) (fun i hi => by have := hu (i + 1) (by omega); simpa [dstAt] using this) (by rw [put_size]; exact ht)]
    congr 1; omega

/-- what an operation must have come to -/
def upS (P : Program) (T : Value → World → Prop) (w : World) : Result Next → Prop
  | .ok (.value u) w' => Below w.heap.size w w' ∧ T u w'
  | .ok .skip w' => Below w.heap.size w w' ∧ T undef w'
  | .ok (.enter f args) w' => Below w.heap.size w w' ∧ Calls P f args w' (fun e w'' => ∃ v, e = .returned v ∧ Below w'.heap.size w' w'' ∧ T v w'')
  | _ => False
@[go_sem] theorem upS_value (P : Program) (T : Value → World → Prop) (w w' : World) (u : Value) : upS P T w (.ok (.value u) w') = (Below w.heap.size w w' ∧ T u w') := rfl
@[go_sem] theorem upS_skip (P : Program) (T : Value → World → Prop) (w w' : World) : upS P T w (.ok .skip w') = (Below w.heap.size w w' ∧ T undef w') := rfl
@[go_sem] theorem upS_enter (P : Program) (T : Value → World → Prop) (w w' : World) (f : FuncId) (args : Array Value) : upS P T w (.ok (.enter f args) w') =
  (Below w.heap.size w w' ∧ Calls P f args w' (fun e w'' => ∃ v, e = .returned v ∧ Below w'.heap.size w' w'' ∧ T v w'')) := rfl

/-- what one operation must do, carried out in this state -/
@[irreducible] def StepOK (P : Program) (ops : Array Oper) (T : Value → World → Prop) (o : Oper) (a : Act) (w : World) : Prop :=
  if Region.wanted o (yielded ops a.tmps) then upS P T w ((execOp a.eval o).run P w) else T undef w

theorem wp_of_upS {T : Value → World → Prop} {o : Oper} {a : Act} {w : World} {K : Act → World → Prop} (h : upS P T w ((execOp a.eval o).run P w))
    (hK : ∀ v w', Below w.heap.size w w' → T v w' → K (a.put o.dst v) w') : o.wp P a w K Q := by
  unfold Oper.wp
  generalize (execOp a.eval o).run P w = r at *
  cases r with
  | ok n w' =>
    cases n <;> simp only [upS] at h <;> simp only [Oper.upon]
    case value u => exact hK _ _ h.1 h.2
    case skip => exact hK _ _ h.1 h.2
    case enter f args =>
      obtain ⟨h1, h2⟩ := h
      refine h2.mono fun e w'' ⟨v, he, hb, ht⟩ => ?_
      subst he
      exact hK _ _ (h1.trans (hb.mono h1.size)) ht
  | halt x w' => simp only [upS] at h

structure RInv (l : List Oper) (T : Nat → Value → World → Prop) (a0 : Act) (w0 : World) (listed : Array Bool) (a : Act) (w : World) : Prop where
  below : Below w0.heap.size w0 w
  defers : a.defers = a0.defers
  size : a.tmps.size = a0.tmps.size
  lsize : listed.size = l.length
  old : ∀ t, (∀ j, dstAt l j = some t → listed.getD j true = false) → a.tmps.getD t undef = a0.tmps.getD t undef
  closed : ∀ j o, l[j]? = some o → listed.getD j true = true → ∀ i, waitsFor o i = true → listed.getD i true = true
  done : ∀ j d, j < l.length → dstAt l j = some d → listed.getD j true = true → T j (a.tmps.getD d undef) w

theorem okReg_spec {l : List Oper} {n : Nat} (h : okReg l n = true) : Region.noSelect l.toArray = true ∧ ∀ k o, l[k]? = some o →
    (∃ d, o.dst = some d ∧ d < n) ∧ (∀ j, j ≠ k → dstAt l j ≠ o.dst) ∧ (∀ e ∈ o.after, Region.binds .any e = true → e.on < k) ∧
    (∀ t ∈ o.looksAt l.toArray, oldB l k t = true ∨ ∃ j, j < k ∧ waitsFor o j = true ∧ dstAt l j = some t) := by
  unfold okReg at h
  rw [Bool.and_eq_true] at h
  refine ⟨h.1, fun k o ho => ?_⟩
  have hk : k < l.length := (List.getElem?_eq_some_iff.1 ho).1
  have h2 := List.all_eq_true.1 h.2 k (List.mem_range.2 hk)
  rw [ho] at h2
  simp only [Bool.and_eq_true] at h2
  obtain ⟨⟨⟨h3, h4⟩, h5⟩, h6⟩ := h2
  have hd : ∃ d, o.dst = some d ∧ d < n := by
    cases hd : o.dst with
    | none => rw [hd] at h3; cases h3
    | some d => rw [hd] at h3; exact ⟨d, rfl, by simpa using h3⟩
  refine ⟨hd, fun j hj he => ?_, fun e he hb => ?_, fun t ht => ?_⟩
  · obtain ⟨d, hd, _⟩ := hd
    have hjl : j < l.length := by
      apply Classical.byContradiction
      intro hn
      rw [dstAt, List.getElem?_eq_none (by omega), hd] at he
      cases he
    have := List.all_eq_true.1 h4 j (List.mem_range.2 hjl)
    simp [hj, he] at this
  · have := Array.all_eq_true'.1 h5 e he
    simpa [hb] using this
  · have := List.all_eq_true.1 h6 t ht
    rw [Bool.or_eq_true] at this
    rcases this with h | h
    · exact .inl h
    · obtain ⟨j, hj, hh⟩ := List.any_eq_true.1 h
      rw [Bool.and_eq_true] at hh
      exact .inr ⟨j, List.mem_range.1 hj, hh.1, by simpa using hh.2⟩

theorem cnt_set (p q : Nat → Bool) (i : Nat) (hp : p i = true) (hq : q i = false) (h : ∀ j, j ≠ i → q j = p j) : ∀ n, i < n → (List.range n).countP q + 1 = (List.range n).countP p := by
  have key : ∀ n, n ≤ i → (List.range n).countP q = (List.range n).countP p := by
    intro n
    induction n with
    | zero => intro _; rfl
    | succ n ih => intro hn; rw [List.range_succ, List.countP_append, List.countP_append, ih (by omega)]; simp [List.countP_cons, h n (by omega)]
  intro n
  induction n with
  | zero => intro h; omega
  | succ n ih =>
    intro hn
    rw [List.range_succ, List.countP_append, List.countP_append]
    by_cases hin : i = n
    · subst hin; rw [key i (Nat.le_refl _)]; simp [hp, hq]
    · have := ih (by omega); simp [List.countP_cons, h n (Ne.symm hin)]; omega

theorem wpAny_stable {l : List Oper} {T : Nat → Value → World → Prop} {a0 : Act} {w0 : World} (hok : okReg l a0.tmps.size = true) (hT : ∀ i, Stable (T i))
    (hstep : ∀ k o, l[k]? = some o → ∀ (vs : Nat → Value) (w : World), Below w0.heap.size w0 w → (∀ j, j < k → waitsFor o j = true → T j (vs j) w) → StepOK P l.toArray (T k) o (putL (l.take k) 0 vs a0) w)
    (hQ : ∀ (vs : Nat → Value) (w : World), Below w0.heap.size w0 w → (∀ j, j < l.length → T j (vs j) w) → Q .normal (putL l 0 vs a0) w) :
    ∀ (fuel : Nat) (listed : Array Bool) (a : Act) (w : World), RInv l T a0 w0 listed a w → (List.range l.length).countP (fun i => !listed.getD i true) ≤ fuel → wpAny P .any l.toArray Q fuel listed a w := by
  obtain ⟨hsel, hspec⟩ := okReg_spec hok
  -- all have come up: the end
  have fin : ∀ (listed : Array Bool) (a : Act) (w : World), RInv l T a0 w0 listed a w → Region.ready .any l.toArray listed = [] → Q .normal a w := by
    intro listed a w hI hr
    have hall : ∀ j, j < l.length → listed.getD j true = true := by
      intro j
      induction j using Nat.strongRecOn with
      | ind j ih =>
        intro hj
        apply Classical.byContradiction
        intro hn
        have hmem : j ∈ Region.ready .any l.toArray listed := by
          rw [mem_ready]
          refine ⟨by simpa using hn, l[j], by simp [hj], fun e he hb => ?_⟩
          have hlt := (hspec j l[j] (by simp [hj])).2.2.1 e he hb
          have h1 := ih e.on hlt (by omega)
          have hs : e.on < listed.size := by rw [hI.lsize]; omega
          simpa [hs] using h1
        rw [hr] at hmem; cases hmem
    let vs : Nat → Value := fun j => match dstAt l j with | some d => a.tmps.getD d undef | none => undef
    have hTs : ∀ j, j < l.length → T j (vs j) w := by
      intro j hj
      obtain ⟨d, hd, _⟩ := (hspec j l[j] (by simp [hj])).1
      have hda : dstAt l j = some d := by simp [dstAt, hj, hd]
      have := hI.done j d hj hda (hall j hj)
      simp only [vs, hda]; exact this
    have ha : a = putL l 0 vs a0 := by
      have h1 : a.tmps = (putL l 0 vs a0).tmps := by
        apply Array.ext
        · rw [putL_size, hI.size]
        · intro t h1 h2
          have key : a.tmps.getD t undef = (putL l 0 vs a0).tmps.getD t undef := by
            by_cases hw : ∃ j, dstAt l j = some t
            · obtain ⟨j, hj⟩ := hw
              have hjl : j < l.length := by
                apply Classical.byContradiction; intro hn
                rw [dstAt, List.getElem?_eq_none (by omega)] at hj; cases hj
              have hdj : l[j].dst = some t := by simpa [dstAt, hjl] using hj
              rw [putL_at l 0 vs a0 j t hj (fun i hi => by rw [← hdj]; exact (hspec j l[j] (by simp [hjl])).2.1 i hi) (by rw [← hI.size]; exact h1)]
              simp only [vs, Nat.zero_add, hj]
            · rw [putL_old l 0 vs a0 t (fun j hj => hw ⟨j, hj⟩)]
              exact hI.old t (fun j hj => absurd ⟨j, hj⟩ hw)
          simpa [h1, h2] using key
      have h2 : a.defers = (putL l 0 vs a0).defers := by rw [putL_defers, hI.defers]
      cases a; simp only at h1 h2; cases hx : putL l 0 vs a0; rw [hx] at h1 h2; simp only at h1 h2; rw [h1, h2]
    rw [ha]
    exact hQ vs w hI.below hTs
  intro fuel
  induction fuel with
  | zero =>
    intro listed a w hI hc
    have hr : Region.ready .any l.toArray listed = [] := by
      apply List.eq_nil_iff_forall_not_mem.2
      intro j hj
      obtain ⟨h0, o, ho, _⟩ := mem_ready.1 hj
      have hjl : j < l.length := by simpa using (Array.getElem?_eq_some_iff.1 ho).1
      have : 0 < (List.range l.length).countP (fun i => !listed.getD i true) := List.countP_pos_iff.2 ⟨j, List.mem_range.2 hjl, by rw [h0]; rfl⟩
      omega
    exact ⟨hr, fin _ _ _ hI hr⟩
  | succ fuel ih =>
    intro listed a w hI hc
    refine ⟨fin _ _ _ hI, fun k hk => ?_⟩
    obtain ⟨h0, o, ho, hdeps⟩ := mem_ready.1 hk
    have hol : l[k]? = some o := by simpa using ho
    have hkl : k < l.length := (List.getElem?_eq_some_iff.1 hol).1
    obtain ⟨⟨d, hd, hdn⟩, huniq, hafter, hlook⟩ := hspec k o hol
    let vs : Nat → Value := fun j => match dstAt l j with | some d => a.tmps.getD d undef | none => undef
    have hlisted : ∀ j, waitsFor o j = true → listed.getD j true = true ∧ j < k := by
      intro j hj
      obtain ⟨e, he, hb⟩ := Array.any_eq_true'.1 hj
      rw [Bool.and_eq_true] at hb
      have hon : e.on = j := by simpa using hb.2
      have h1 := hdeps e he hb.1
      have h2 := hafter e he hb.1
      rw [hon] at h1 h2
      have hs : j < listed.size := by rw [hI.lsize]; omega
      exact ⟨by simpa [hs] using h1, h2⟩
    have hTs : ∀ j, j < k → waitsFor o j = true → T j (vs j) w := by
      intro j hj hw
      obtain ⟨d', hd', _⟩ := (hspec j l[j] (by simp)).1
      have hda : dstAt l j = some d' := by simp [dstAt, show j < l.length by omega, hd']
      have := hI.done j d' (by omega) hda (hlisted j hw).1
      simp only [vs, hda]; exact this
    have hst := hstep k o hol vs w hI.below hTs
    -- it looks at slots that are the same here and there
    have hslot : ∀ t ∈ o.looksAt l.toArray, a.tmps.getD t undef = (putL (l.take k) 0 vs a0).tmps.getD t undef := by
      intro t ht
      rcases hlook t ht with hold | ⟨j, hjk, hwj, hdj⟩
      · have hnot : ∀ j, dstAt l j = some t → ∀ o', l[j]? = some o' → waitsFor o' k = true := by
          intro j hj o' ho'
          have hjl : j < l.length := (List.getElem?_eq_some_iff.1 ho').1
          have := List.all_eq_true.1 hold j (List.mem_range.2 hjl)
          simpa [hj, ho'] using this
        rw [hI.old t (fun j hj => ?_), putL_old _ _ _ _ _ (fun j hj => ?_)]
        · have hjl : j < l.length := by
            apply Classical.byContradiction; intro hn
            rw [dstAt, List.getElem?_take] at hj
            split at hj
            · omega
            · cases hj
          have hj' : dstAt l j = some t := by
            rw [dstAt, List.getElem?_take] at hj
            split at hj
            · exact hj
            · cases hj
          have hjk : j < k := by
            apply Classical.byContradiction; intro hn
            rw [dstAt, List.getElem?_take, if_neg hn] at hj; cases hj
          have hw := hnot j hj' l[j] (by simp [hjl])
          obtain ⟨e, he, hb⟩ := Array.any_eq_true'.1 hw
          rw [Bool.and_eq_true] at hb
          have hon : e.on = k := by simpa using hb.2
          have := (hspec j l[j] (by simp [hjl])).2.2.1 e he hb.1
          omega
        · have hjl : j < l.length := by
            apply Classical.byContradiction; intro hn
            rw [dstAt, List.getElem?_eq_none (by omega)] at hj; cases hj
          have hw := hnot j hj l[j] (by simp [hjl])
          cases hl : listed.getD j true with
          | false => rfl
          | true => exact absurd (hI.closed j l[j] (by simp [hjl]) hl k hw) (by rw [h0]; simp)
      · have hjl : j < l.length := by omega
        have hdj' : l[j].dst = some t := by simpa [dstAt, hjl] using hdj
        have h1 : dstAt (l.take k) j = some t := by rw [dstAt, List.getElem?_take, if_pos hjk]; exact hdj
        have h2 : ∀ i, i ≠ j → dstAt (l.take k) i ≠ some t := by
          intro i hi hh
          rw [dstAt, List.getElem?_take] at hh
          split at hh
          · exact (hspec j l[j] (by simp [hjl])).2.1 i hi (by rw [hdj']; exact hh)
          · cases hh
        have h3 : t < a0.tmps.size := by
          obtain ⟨d', hd', hlt⟩ := (hspec j l[j] (by simp [hjl])).1
          rw [hd'] at hdj'; cases hdj'; exact hlt
        rw [putL_at _ 0 vs a0 j t h1 h2 h3]
        simp only [vs, Nat.zero_add, hdj]
    have he : execOp a.eval o = execOp (putL (l.take k) 0 vs a0).eval o := execOp_congr o (fun cs b => Region.noSelect_spec hsel k o cs b ho) fun x hx => by
      cases x with
      | tmp t => exact hslot t (List.mem_append_left _ (List.mem_filterMap.2 ⟨.tmp t, by simpa using hx, rfl⟩))
      | const v => rfl
      | global g => rfl
      | func f => rfl
    have hwant : Region.wanted o (yielded l.toArray a.tmps) = Region.wanted o (yielded l.toArray (putL (l.take k) 0 vs a0).tmps) := by
      unfold Region.wanted
      cases hg : o.guard with
      | none => rfl
      | some gw =>
        obtain ⟨g, want⟩ := gw
        have hy : yielded l.toArray a.tmps g = yielded l.toArray (putL (l.take k) 0 vs a0).tmps g := by
          unfold yielded
          cases ht : ((l.toArray)[g]?).bind (·.dst) with
          | none => rfl
          | some t =>
            have hs := hslot t (List.mem_append_right _ (by rw [hg]; simpa using ht))
            have hsz : a.tmps.size = (putL (l.take k) 0 vs a0).tmps.size := (hI.size).trans (putL_size _ _ _ _).symm
            have h2 : a.tmps[t]? = (putL (l.take k) 0 vs a0).tmps[t]? := by
              by_cases hlt : t < a.tmps.size
              · have hlt2 : t < (putL (l.take k) 0 vs a0).tmps.size := hsz ▸ hlt
                simp [hlt, hlt2] at hs ⊢; exact hs
              · rw [Array.getElem?_eq_none (Nat.le_of_not_lt hlt), Array.getElem?_eq_none (hsz ▸ Nat.le_of_not_lt hlt)]
            simp only [Option.bind_some, h2]
        simp only [hy]
    -- what is left holds behind it
    have hnext : ∀ v w', Below w.heap.size w w' → T k v w' → wpAny P .any l.toArray Q fuel (listed.setIfInBounds k true) (a.put o.dst v) w' := by
      intro v w' hb hv
      have hks : k < listed.size := by rw [hI.lsize]; exact hkl
      have hset : ∀ j, (listed.setIfInBounds k true).getD j true = if j = k then true else listed.getD j true := by
        intro j
        by_cases hj : j = k
        · subst hj; simp [hks]
        · rw [if_neg hj, getD_set_ne true (Ne.symm hj)]
      apply ih
      · refine ⟨hI.below.trans (hb.mono hI.below.size), by rw [put_defers]; exact hI.defers, by rw [put_size]; exact hI.size, by simpa using hI.lsize, ?_, ?_, ?_⟩
        · intro t ht
          rw [put_other]
          · apply hI.old
            intro j hj
            have := ht j hj
            rw [hset] at this
            split at this
            · cases this
            · exact this
          · intro hdt
            have := ht k (by simp [dstAt, hol, hdt])
            rw [hset, if_pos rfl] at this; cases this
        · intro j o' ho' hl i hi
          rw [hset] at hl ⊢
          by_cases hik : i = k
          · rw [if_pos hik]
          · rw [if_neg hik]
            by_cases hjk : j = k
            · subst hjk; rw [hol] at ho'; cases ho'; exact (hlisted i hi).1
            · rw [if_neg hjk] at hl; exact hI.closed j o' ho' hl i hi
        · intro j d' hj hdj hl
          by_cases hjk : j = k
          · subst hjk
            have : o.dst = some d' := by simpa [dstAt, hol] using hdj
            rw [this, put_at _ _ _ (by rw [hI.size]; rw [hd] at this; cases this; exact hdn)]
            exact hv
          · rw [hset, if_neg hjk] at hl
            rw [put_other _ _ _ _ (fun h => huniq j hjk (by rw [hdj, h]))]
            exact hT j _ _ _ hb (hI.done j d' hj hdj hl)
      · have := cnt_set (fun i => !listed.getD i true) (fun i => !(listed.setIfInBounds k true).getD i true) k (by simp only [h0]; rfl) (by simp only [hset]; simp) (fun j hj => by simp only [hset, if_neg hj]) l.length hkl
        omega
    unfold wpOp
    rw [ho]
    unfold StepOK at hst
    rw [← hwant, ← he] at hst
    simp only
    split
    · rename_i hw
      rw [if_pos hw] at hst
      exact .inl (wp_of_upS hst hnext)
    · rename_i hw
      rw [if_neg hw] at hst
      exact hnext undef w (Below.refl _ _) hst

theorem wp_region_stable {id : Nat} {l : List Oper} {a0 : Act} {w0 : World} (hm : P.follows .mixedOrders = true) (hok : okReg l a0.tmps.size = true) (T : Nat → Value → World → Prop) (hT : ∀ i, Stable (T i))
    (hstep : ∀ k o, l[k]? = some o → ∀ (vs : Nat → Value) (w : World), Below w0.heap.size w0 w → (∀ j, j < k → waitsFor o j = true → T j (vs j) w) → StepOK P l.toArray (T k) o (putL (l.take k) 0 vs a0) w)
    (hQ : ∀ (vs : Nat → Value) (w : World), Below w0.heap.size w0 w → (∀ j, j < l.length → T j (vs j) w) → Q .normal (putL l 0 vs a0) w) :
    (Code.region id l.toArray true).wp P Q a0 w0 := by
  refine wp_region_any hm (wpAny_stable hok hT hstep hQ _ _ _ _ ⟨below_drewN (Below.refl _ _) 1, rfl, rfl, by simp, fun _ _ => rfl, ?_, ?_⟩ ?_)
  · intro j o ho hl
    have hj : j < l.length := (List.getElem?_eq_some_iff.1 ho).1
    simp [hj] at hl
  · intro j d hj _ hl
    simp [hj] at hl
  · exact Nat.le_trans List.countP_le_length (by simp)

end

/-- just this value -/
def isV (c : Value) : Value → World → Prop := fun v _ => v = c
theorem isV_mk (c : Value) (w : World) : isV c c w := rfl
theorem isV_stable (c : Value) : Stable (isV c) := fun _ _ _ _ h => h
/-- the predicate of operation j, out of those of the operations ahead of k, the last one first -/
def TR (Ts : List (Value → World → Prop)) (k j : Nat) : Value → World → Prop := Ts.getD (k - 1 - j) (fun _ _ => True)

section
variable {P : Program} {Q : Exit → Act → World → Prop}
/-- the walk of the text's order: for each operation what its value is -/
def RunL (P : Program) (Q : Exit → Act → World → Prop) (l0 : List Oper) (a0 : Act) (w0 : World) : Nat → List Oper → List (Value → World → Prop) → Prop
  | k, [], Ts => ∀ (vs : Nat → Value) (w : World), Below w0.heap.size w0 w → (∀ j, j < k → TR Ts k j (vs j) w) → Q .normal (putL l0 0 vs a0) w
  | k, o :: r, Ts => ∃ T, Stable T ∧ (∀ (vs : Nat → Value) (w : World), Below w0.heap.size w0 w → (∀ j, j < k → waitsFor o j = true → TR Ts k j (vs j) w) → StepOK P l0.toArray T o (putL (l0.take k) 0 vs a0) w) ∧
      RunL P Q l0 a0 w0 (k + 1) r (T :: Ts)

theorem runL_spec {l0 : List Oper} {a0 : Act} {w0 : World} : ∀ (r : List Oper) (k : Nat) (Ts : List (Value → World → Prop)), Ts.length = k → (∀ j, j < k → Stable (TR Ts k j)) → RunL P Q l0 a0 w0 k r Ts →
    ∃ T : Nat → Value → World → Prop, (∀ j, j < k → T j = TR Ts k j) ∧ (∀ i, Stable (T i)) ∧
      (∀ i o, r[i]? = some o → ∀ (vs : Nat → Value) (w : World), Below w0.heap.size w0 w → (∀ j, j < k + i → waitsFor o j = true → T j (vs j) w) → StepOK P l0.toArray (T (k + i)) o (putL (l0.take (k + i)) 0 vs a0) w) ∧
      (∀ (vs : Nat → Value) (w : World), Below w0.heap.size w0 w → (∀ j, j < k + r.length → T j (vs j) w) → Q .normal (putL l0 0 vs a0) w)
  | [], k, Ts, hl, hs, h => by
    refine ⟨fun j => if j < k then TR Ts k j else fun _ _ => True, fun j hj => by simp [hj], fun i => ?_, fun i o hi => by simp at hi, fun vs w hb hT => ?_⟩
    · by_cases hi : i < k
      · simp only [hi, if_true]; exact hs i hi
      · simp only [hi, if_false]; exact fun _ _ _ _ _ => trivial
    · refine h vs w hb (fun j hj => ?_)
      have := hT j (by simpa using hj)
      simpa [hj] using this
  | o :: r, k, Ts, hl, hs, h => by
    obtain ⟨T0, hst, hstep, hrest⟩ := h
    have hTR : ∀ j, j < k → TR (T0 :: Ts) (k + 1) j = TR Ts k j := by
      intro j hj
      unfold TR
      rw [show k + 1 - 1 - j = (k - 1 - j) + 1 by omega, List.getD_cons_succ]
    have hTk : TR (T0 :: Ts) (k + 1) k = T0 := by unfold TR; rw [show k + 1 - 1 - k = 0 by omega, List.getD_cons_zero]
    obtain ⟨T, h1, h2, h3, h4⟩ := runL_spec r (k + 1) (T0 :: Ts) (by simp [hl]) (fun j hj => by
      by_cases hjk : j = k
      · subst hjk; rw [hTk]; exact hst
      · rw [hTR j (by omega)]; exact hs j (by omega)) hrest
    have hT : ∀ j, j < k → T j = TR Ts k j := fun j hj => (h1 j (by omega)).trans (hTR j hj)
    have hk : T k = T0 := (h1 k (by omega)).trans hTk
    refine ⟨T, hT, h2, fun i o' hi vs w hb hd => ?_, fun vs w hb hd => h4 vs w hb (fun j hj => hd j (by simp; omega))⟩
    cases i with
    | zero =>
      simp at hi; subst hi
      rw [Nat.add_zero, hk]
      exact hstep vs w hb (fun j hj hw => by rw [← hT j hj]; exact hd j (by omega) hw)
    | succ i =>
      have := h3 i o' (by simpa using hi) vs w hb (fun j hj hw => hd j (by omega) hw)
      rwa [show k + 1 + i = k + (i + 1) by omega] at this

theorem wp_region_run {id : Nat} {l : List Oper} {a0 : Act} {w0 : World} (hm : P.follows .mixedOrders = true) (hok : okReg l a0.tmps.size = true) (h : RunL P Q l a0 w0 0 l []) :
    (Code.region id l.toArray true).wp P Q a0 w0 := by
  obtain ⟨T, _, h2, h3, h4⟩ := runL_spec l 0 [] rfl (fun j hj => by omega) h
  refine wp_region_stable hm hok T h2 (fun k o ho vs w hb hd => ?_) (fun vs w hb hd => h4 vs w hb (fun j hj => hd j (by omega)))
  have := h3 k o ho vs w hb (fun j hj => hd j (by omega))
  rwa [Nat.zero_add] at this

theorem RunL.pure {l0 : List Oper} {a0 : Act} {w0 : World} {k : Nat} {o : Oper} {r : List Oper} {Ts : List (Value → World → Prop)} {c : Value}
    (h : ∀ (vs : Nat → Value) (w : World), Below w0.heap.size w0 w → (∀ j, j < k → waitsFor o j = true → TR Ts k j (vs j) w) → StepOK P l0.toArray (isV c) o (putL (l0.take k) 0 vs a0) w)
    (hr : RunL P Q l0 a0 w0 (k + 1) r (isV c :: Ts)) : RunL P Q l0 a0 w0 k (o :: r) Ts := ⟨isV c, isV_stable c, h, hr⟩
theorem RunL.such {l0 : List Oper} {a0 : Act} {w0 : World} {k : Nat} {o : Oper} {r : List Oper} {Ts : List (Value → World → Prop)} (T : Value → World → Prop) (hT : Stable T)
    (h : ∀ (vs : Nat → Value) (w : World), Below w0.heap.size w0 w → (∀ j, j < k → waitsFor o j = true → TR Ts k j (vs j) w) → StepOK P l0.toArray T o (putL (l0.take k) 0 vs a0) w)
    (hr : RunL P Q l0 a0 w0 (k + 1) r (T :: Ts)) : RunL P Q l0 a0 w0 k (o :: r) Ts := ⟨T, hT, h, hr⟩
end

/-- a slice that reads as these bytes -/
def isB (l : List UInt8) : Value → World → Prop := fun v w => ∃ A n c, v = .slice A n c ∧ Sl w 1 A n c (bytesV l)
theorem isB_elim {l : List UInt8} {v : Value} {w : World} (h : isB l v w) : ∃ A n c, v = .slice A n c ∧ Sl w 1 A n c (bytesV l) := h
theorem isB_stable (l : List UInt8) : Stable (isB l) := fun _ _ _ hb ⟨A, n, c, e, h⟩ => ⟨A, n, c, e, h.below hb⟩

end Go.Proofs.YtemegkapmgcffaaGreat

/- What all chapters share. -/
namespace Go.Proofs.YtemegkapmgcffaaGreat
open Go.RowKit
set_option linter.unusedSimpArgs false
set_option linter.unusedVariables false

theorem add_plain (g j : Nat) : (⟨g, 0, none⟩ : Addr).add j = ⟨g, j, none⟩ := by unfold Addr.add; split <;> simp_all

def bstr (l : List UInt8) : ByteArray := ⟨l.toArray⟩
@[go_sem] theorem bstr_toList (l : List UInt8) : (bstr l).toList = l := by rw [ByteArray.toList_eq]; rfl
theorem strOfNums_bytes (l : List UInt8) : strOfNums (l.map fun b => (b.toNat : Int)) = bstr l := by
  unfold strOfNums bstr
  congr 1
  simp [List.map_map, Function.comp_def]
/-- string(bytes) -/
theorem run_str {w : World} {A : Option Addr} {n c : Nat} {l : List UInt8} (hs : Sl w 1 A n c (bytesV l)) :
    (convert 34 9 (.slice A n c)).run Tryz.prog w = .ok (.string (bstr l)) w := by
  cases A with
  | none =>
    obtain ⟨rfl, rfl⟩ := hs.none rfl
    have hl : l = [] := List.eq_nil_of_length_eq_zero hs.blen
    subst hl
    exact run_convert_bytes_nil w 34 5 Tryz.underlying34 Tryz.underlying5 0 0 9 Tryz.underlying9
  | some ad =>
    have hl := run_loadCells_list (P := Tryz.prog) w ad (bytesV l) (fun j v hj => by obtain ⟨a, h1, h2⟩ := hs.cells j v hj; cases h1; exact h2)
    have hlen := hs.blen
    rw [bytesV_length, hlen] at hl
    have hm : bytesV l = (l.map fun b => (b.toNat : Int)).map (Value.int .u8) := by simp [bytesV, byteV, Function.comp_def]
    rw [hm] at hl
    rw [run_convert_bytes_string w 34 9 5 _ n c Tryz.underlying34 Tryz.underlying5 Tryz.underlying9, run_bytesToString w _ n c _ hl, foldl_push_bytes]
    rw [← strOfNums_bytes]
    simp [strOfNums, ByteArray.empty, ByteArray.emptyWithCapacity]
    rfl
theorem sl_lit_mark (w : World) (l : List UInt8) (e : TypeId) (fr : Nat × Nat) : Sl (w.alloc (.cells (bytesV l).toArray e fr)) 1 (some ⟨w.heap.size, 0, none⟩) l.length l.length (bytesV l) := by
  refine ⟨fun j u hj => ⟨_, rfl, ?_⟩, by simp [bytesV], Nat.le_refl _, fun h => by cases h⟩
  rw [add_plain, cell_of_row _ w.heap.size j (bytesV l).toArray e fr (heap_alloc_new w _)]
  simpa using hj
theorem App.block_lt {base n c : Nat} {e : TypeId} {w : World} {a : Addr} {cs : List Value} (h : App base e 1 w (some a) n c cs) (hn : 0 < n) : a.block < w.heap.size := by
  have hs := h.sl
  obtain ⟨ad, h1, h2⟩ := hs.cells 0 (cs[0]'(by rw [hs.len]; omega)) (List.getElem?_eq_getElem _)
  cases h1
  have := World.block_lt_of_cell? w _ h2
  rwa [add_block] at this
theorem sl_cells (w : World) (cs : List Value) (e : TypeId) : Sl (w.alloc (.cells cs.toArray e)) 1 (some ⟨w.heap.size, 0, none⟩) cs.length cs.length cs := by
  refine ⟨fun j u hj => ⟨_, rfl, ?_⟩, by simp, Nat.le_refl _, fun h => by cases h⟩
  rw [add_plain, cell_of_row _ w.heap.size j cs.toArray e (0, 0) (heap_alloc_new w _)]
  simpa using hj
/-- a row of the call's own, as a slice -/
def Own (base : Nat) (e : TypeId) (size : Nat) (w : World) (A : Option Addr) (n c : Nat) (cs : List Value) : Prop := w.ownsRow base e size (.slice A n c) n cs
section
variable {base size n c : Nat} {e : TypeId} {w : World} {A : Option Addr} {cs : List Value}
theorem Own.app (h : Own base e size w A n c cs) : App base e size w A n c cs := .inl h
theorem Own.sl (h : Own base e size w A n c cs) : Sl w size A n c cs := ownsRow_sl h
theorem Own.below {w' : World} (h : Own base e size w A n c cs) (hb : Below w.heap.size w w') : Own base e size w' A n c cs := by
  refine World.ownsRow.kept h (row := none) ⟨hb.os, hb.tape, hb.output, hb.size, fun i hi _ => hb.block i hi⟩ ?_
  cases A with
  | none => exact .inl rfl
  | some a => exact .inr (by simp [Value.ownBlock])
theorem Own.alloc (h : Own base e size w A n c cs) (o : Obj) : Own base e size (w.alloc o) A n c cs := h.below (below_alloc1 _ _)
end
theorem Own.block_lt {base n c : Nat} {e : TypeId} {w : World} {a : Addr} {cs : List Value} (h : Own base e 1 w (some a) n c cs) (hn : 0 < n) : a.block < w.heap.size := (Own.app h).block_lt hn
theorem new_own (w : World) (cs : List Value) (t : TypeId) (N : Nat) (h : cs.length = N) (hm : N ≤ maxLen) : Own w.heap.size t 1 (w.alloc (.cells cs.toArray t)) (some ⟨w.heap.size, 0, none⟩) N N cs :=
  ⟨by omega, .inr ⟨w.heap.size, N, cs.toArray, rfl, Nat.le_refl _, heap_alloc_new w _, Nat.le_refl _, hm, by simpa using h, by rw [Nat.mul_one, ← h]; simp⟩⟩
theorem results_cell2 {fn : Func} {t u v : Tmp} {ty : TypeId} (h : fn.results = #[.cell t ty, .tmp u, .tmp v]) (tmps : Array Value) (P : Program) (w : World) (a : Addr) (ht : tmps.getD t undef = .pointer (some a)) (x : Value) (hl : (loadVar ty a).run P w = .ok x w) :
    (results fn tmps).run P w = .ok (.tuple #[x, tmps.getD u undef, tmps.getD v undef]) w := by
  simp only [Array.getD_eq_getD_getElem?] at ht
  simp [results, h, ht, asAddr, Sem.run_bind, hl]
theorem Own.apart {base size n c h g : Nat} {e : TypeId} {w w' : World} {cs : List Value} (k : Own base e size w (some ⟨h, 0, none⟩) n c cs) (hg : w.grownBy w' (some g)) (hne : h ≠ g) : Own base e size w' (some ⟨h, 0, none⟩) n c cs :=
  World.ownsRow.kept k hg (.inr (by simpa [Value.ownBlock] using hne))
def Rr (r : Nat) (w w' : World) : Prop := w.grownBy w' (some r)
def namedB (s : List UInt8) : Bool := decide (1 ≤ s.length) && decide (s.length ≤ 40)
theorem ret_bool {a b : Bool} (h : a = true ↔ b = true) : Ending.returned (.bool a) = .returned (.bool b) := by rw [Bool.eq_iff_iff.2 h]
theorem such_of_bool {f : FuncId} {args : Array Value} {w : World} {v : Value} (h : Calls Tryz.prog f args w fun e w' => e = .returned v ∧ Below w.heap.size w w') :
    Calls Tryz.prog f args w fun e w' => ∃ u, e = .returned u ∧ Below w.heap.size w w' ∧ isV v u w' :=
  h.mono fun e w' ⟨h1, h2⟩ => ⟨_, h1, h2, isV_mk _ _⟩
theorem Own.keep {base N g size n c : Nat} {e : TypeId} {w w' : World} {cs : List Value} (h : Own base e size w (some ⟨g, 0, none⟩) n c cs) (hb : Below N w w') (hg : g < N) : Own base e size w' (some ⟨g, 0, none⟩) n c cs := by
  refine ⟨h.1, ?_⟩
  rcases h.2 with ⟨h', _⟩ | ⟨g', cap, cur, hv, hb', hg', rest⟩
  · simp at h'
  · simp only [Value.slice.injEq, Option.some.injEq, Addr.mk.injEq, and_true, true_and] at hv
    obtain ⟨rfl, rfl⟩ := hv
    exact .inr ⟨_, _, cur, rfl, hb', (hb.block _ hg).trans hg', rest⟩
/-- what is below B stays as it was -/
def RB (B : Nat) (w w' : World) : Prop := B ≤ w.heap.size → Below B w w'
theorem RB.below {B : Nat} {w w' : World} (h : Below w.heap.size w w') : RB B w w' := fun hB => h.mono hB
theorem RB.trans {B : Nat} {w w1 w2 : World} (h : RB B w w1) (k : RB B w1 w2) : RB B w w2 := fun hB => (h hB).trans (k (Nat.le_trans hB (h hB).size))
theorem RB.grown {B g : Nat} {w w' : World} (h : w.grownBy w' (some g)) (hg : B ≤ g) : RB B w w' := fun hB => (Below.refl _ _).grown h hB (fun k hk => by cases hk; exact hg)
theorem RB.cell {w w' : World} {a : Addr} {u : Value} (h : RB w.heap.size w w') (hc : w.cell? a = some u) : w'.cell? a = some u :=
  (World.cell?_of_block ((h (Nat.le_refl _)).block _ (World.block_lt_of_cell? _ _ hc))).trans hc
theorem Own.lower {base base' size n c : Nat} {e : TypeId} {w : World} {A : Option Addr} {cs : List Value} (h : Own base e size w A n c cs) (hb : base' ≤ base) : Own base' e size w A n c cs := by
  refine ⟨h.1, ?_⟩
  rcases h.2 with h | ⟨g, cap, cur, a, b, r⟩
  · exact .inl h
  · exact .inr ⟨g, cap, cur, a, by omega, r⟩
theorem addr_add_add (a : Addr) (i j : Nat) : (a.add i).add j = a.add (i + j) := by
  unfold Addr.add
  by_cases h1 : i = 0
  · subst h1; simp
  · by_cases h2 : j = 0
    · subst h2; simp
    · have h3 : ¬ (i + j = 0) := by omega
      simp [h1, h2, h3, Nat.add_assoc]
end Go.Proofs.YtemegkapmgcffaaGreat

/- Laws of no program: copy at elements of any size; rows of elements of one size. -/
namespace Go.Proofs.YtemegkapmgcffaaGreat
open Go.RowKit
set_option linter.unusedSimpArgs false
set_option linter.unusedVariables false

theorem run_copyN {P : Program} (w : World) (dT sT ty elem : TypeId) (size : Nat) (hu : P.underlying dT = some (.slice elem)) (hsz : (P.info? elem).map (·.size) = some size) (dp sp : Option Addr) (dLen dCap sLen sCap : Nat)
    (g off : Nat) (cur : Array Value) (t : TypeId) (hg : w.heap[g]? = some (.cells cur t (0, 0))) (cs : List Value) (hn : cs.length = Nat.min sLen dLen * size)
    (hpos : 0 < cs.length → dp = some ⟨g, off, none⟩ ∧ ∃ ad, sp = some ad ∧ ∀ j v, cs[j]? = some v → w.cell? (ad.add j) = some v)
    (hfit : off + cs.length ≤ cur.size) (h1 : ∀ v ∈ cs, v.oneCell' = true) :
    (Builtin.copy_ #[dT, sT] ty #[.slice dp dLen dCap, .slice sp sLen sCap]).run P w = .ok (goInt (Nat.min sLen dLen)) (w.setRow g (splice cur.toList off cs).toArray) := by
  cases hq : P.info? elem with
  | none => simp [hq] at hsz
  | some i =>
    have hi : i.size = size := by simpa [hq] using hsz
    by_cases h0 : cs.length = 0
    · obtain rfl : cs = [] := List.eq_nil_of_length_eq_zero h0
      have hz : Nat.min sLen dLen * size = 0 := by simpa using hn.symm
      have hs : (splice cur.toList off []).toArray = cur := by simp [splice]
      have hl : ∀ (x : Addr), (loadCells x 0).run P w = .ok #[] w := fun x => by simpa using run_loadCells_list (P := P) w x [] (by simp)
      rw [hs, setRow_self w g cur t (0, 0) hg]
      cases dp <;> cases sp <;> simp [Builtin.copy_, run_underlying hu, Builtin.lenOf, Builtin.firstCells, sizeOf, typeInfo, hq, hi, hz, storeCells, hl]
    · obtain ⟨rfl, ad, rfl, hsrc⟩ := hpos (by omega)
      have hl := run_loadCells_list (P := P) w ad cs hsrc
      have hst := run_storeCells_at P g off t cs 0 cur w hg (by simpa using hfit) h1
      simp [Builtin.copy_, run_underlying hu, Builtin.lenOf, Builtin.firstCells, sizeOf, typeInfo, hq, hi, ← hn, hl, hst, splice]

theorem wpList_copyR {P : Program} (w : World) {ops : Array Oper} {rest : List Oper} {o : Oper} {a : Act} {Q : Exit → Act → World → Prop} (hgd : o.guard = none) (d s : Operand) (t t' : TypeId)
    (ho : o.op = .call { callee := .builtin .copy, args := #[d, s], argTypes := #[t, t'] }) (v u : Value) (hd : a.eval d = v) (hs : a.eval s = u) {v' : Value} {w' : World}
    (hr : (Builtin.copy_ #[t, t'] o.type #[v, u]).run P w = .ok v' w') (h : wpList P ops Q rest (a.put o.dst v') w') : wpList P ops Q (o :: rest) a w := by
  refine wpList_plain hgd fun K hK => ?_
  unfold Oper.wp
  simp [execOp, ho, resolve, invoke, builtin, hd, hs, hr, Result.andThen]
  exact hK _ _ h

theorem step_copyR {P : Program} {ops : Array Oper} {o : Oper} {a : Act} {w : World} {K : Act → World → Prop} {Q : Exit → Act → World → Prop} {E : Prop}
    (hg : o.guard = none) (d x : Operand) (dT sT : TypeId) (hop : o.op = Op.call { callee := Callee.builtin Builtin.copy, args := #[d, x], argTypes := #[dT, sT] })
    (v u : Value) (hd : a.eval d = v) (hx : a.eval x = u) {v' : Value} {w' : World} (hr : (Builtin.copy_ #[dT, sT] o.type #[v, u]).run P w = .ok v' w') (hK : K (a.put o.dst v') w') :
    if Region.wanted o (yielded ops a.tmps) = true then Oper.wp P o a w K Q else E := by
  have hw : Region.wanted o (yielded ops a.tmps) = true := by simp [Region.wanted, hg]
  rw [if_pos hw]
  unfold Oper.wp
  simp [execOp, hop, resolve, invoke, builtin, hd, hx, hr, Result.andThen]
  exact hK

theorem run_clearN {P : Program} (w : World) (t ty e : TypeId) (i : TypeInfo) (z : Value) (size : Nat) (ht : P.underlying t = some (.slice e)) (hi : P.info? e = some i) (hz : i.zero = some z) (hzs : z.cells.size = size) (g off n c : Nat) (cur : Array Value) (te : TypeId) (hg : w.heap[g]? = some (.cells cur te (0, 0)))
    (h1 : ∀ u ∈ (Builtin.zeroCells z.cells n).toList, u.oneCell' = true) (hfit : off + n * size ≤ cur.size) :
    (Builtin.clear_ #[t] ty #[.slice (some ⟨g, off, none⟩) n c]).run P w = .ok (.tuple #[]) (w.setRow g (splice cur.toList off (Builtin.zeroCells z.cells n).toList).toArray) := by
  by_cases h0 : n = 0
  · subst h0
    have hs : (splice cur.toList off (Builtin.zeroCells z.cells 0).toList).toArray = cur := by simp [splice, Builtin.zeroCells]
    rw [hs, setRow_self w g cur te (0, 0) hg]
    simp [Builtin.clear_, run_underlying ht]
  · have hl : (Builtin.zeroCells z.cells n).toList.length = n * size := by rw [Array.length_toList, size_zeroCells, hzs]
    have hst := run_storeCells_at P g off te (Builtin.zeroCells z.cells n).toList 0 cur w hg (by rw [hl]; simpa using hfit) h1
    obtain ⟨m, rfl⟩ : ∃ m, n = m + 1 := ⟨n - 1, by omega⟩
    simp only [Nat.add_zero] at hst
    simp [Builtin.clear_, run_underlying ht, zeroValue, typeInfo, hi, hz, hst, splice]
theorem wpList_clearR {P : Program} (w : World) {ops : Array Oper} {rest : List Oper} {o : Oper} {a : Act} {Q : Exit → Act → World → Prop} (hgd : o.guard = none) (d : Operand) (t : TypeId)
    (ho : o.op = .call { callee := .builtin .clear, args := #[d], argTypes := #[t] }) (v : Value) (hd : a.eval d = v) {v' : Value} {w' : World}
    (hr : (Builtin.clear_ #[t] o.type #[v]).run P w = .ok v' w') (h : wpList P ops Q rest (a.put o.dst v') w') : wpList P ops Q (o :: rest) a w := by
  refine wpList_plain hgd fun K hK => ?_
  unfold Oper.wp
  simp [execOp, ho, resolve, invoke, builtin, hd, hr, Result.andThen]
  exact hK _ _ h
theorem sl_of_block {w : World} {g : Nat} {X : List Value} {t : TypeId} {fr : Nat × Nat} {size n : Nat} (hx : w.heap[g]? = some (.cells X.toArray t fr)) (hl : X.length = n * size) : Sl w size (some ⟨g, 0, none⟩) n n X :=
  ⟨fun j u hj => ⟨_, rfl, by
    have e : (⟨g, 0, none⟩ : Addr).add j = ⟨g, j, none⟩ := by unfold Addr.add; split <;> simp_all
    rw [e]
    simp [World.cell?, hx, hj]⟩, hl, Nat.le_refl _, fun h => by cases h⟩

/-- an insertion in place: what is behind goes up, the new one is laid over -/
theorem splice_shift {α : Type} (F1 D R X : List α) (h : X.length ≤ R.length) :
    (splice (splice (F1 ++ (D ++ R)) (F1.length + X.length) D) F1.length X).take (F1.length + X.length + D.length) = F1 ++ (X ++ D) := by
  have hl : (F1 ++ (D ++ R)).length = F1.length + (D.length + R.length) := by simp
  have e1 : (splice (F1 ++ (D ++ R)) (F1.length + X.length) D).take F1.length = F1 := by
    unfold splice
    rw [List.take_append_of_le_length (by rw [List.length_take, hl]; omega), List.take_take, Nat.min_eq_left (by omega), List.take_append_of_le_length (by omega), List.take_of_length_le (by omega)]
  have e2 : ∃ S, (splice (F1 ++ (D ++ R)) (F1.length + X.length) D).drop (F1.length + X.length) = D ++ S := by
    refine ⟨(F1 ++ (D ++ R)).drop (F1.length + X.length + D.length), ?_⟩
    unfold splice
    rw [List.drop_append_of_le_length (by rw [List.length_take, hl]; omega), List.drop_of_length_le (by rw [List.length_take, hl]; omega), List.nil_append]
  obtain ⟨S, hS⟩ := e2
  have e3 : splice (splice (F1 ++ (D ++ R)) (F1.length + X.length) D) F1.length X = (F1 ++ (X ++ D)) ++ S := by
    rw [splice, e1, hS]; simp
  rw [e3, List.take_append_of_le_length (by simp; omega), List.take_of_length_le (by simp; omega)]
theorem splice_seq {α : Type} (L X D : List α) (a : Nat) (h : a + X.length + D.length ≤ L.length) :
    (splice (splice L a X) (a + X.length) D).take (a + X.length + D.length) = L.take a ++ (X ++ D) := by
  have e1 : (splice L a X).take (a + X.length) = L.take a ++ X := by
    unfold splice
    rw [← List.append_assoc, List.take_append_of_le_length (by simp; omega), List.take_of_length_le (by simp; omega)]
  unfold splice at e1 ⊢
  rw [e1, ← List.append_assoc, List.take_append_of_le_length (by simp; omega), List.take_of_length_le (by simp; omega), List.append_assoc]
theorem flatMap_take {α β : Type} (f : α → List β) (s : Nat) (h : ∀ x, (f x).length = s) : ∀ (l : List α) (i : Nat), (l.flatMap f).take (i * s) = (l.take i).flatMap f
  | [], i => by simp
  | x :: r, 0 => by simp
  | x :: r, i + 1 => by
    rw [List.flatMap_cons, List.take_succ_cons, List.flatMap_cons, List.take_append, List.take_of_length_le (by rw [h, Nat.add_mul]; omega), h, show (i + 1) * s - s = i * s by rw [Nat.add_mul]; omega, flatMap_take f s h r i]
theorem flatMap_drop {α β : Type} (f : α → List β) (s : Nat) (h : ∀ x, (f x).length = s) : ∀ (l : List α) (i : Nat), (l.flatMap f).drop (i * s) = (l.drop i).flatMap f
  | [], i => by simp
  | x :: r, 0 => by simp
  | x :: r, i + 1 => by
    rw [List.flatMap_cons, List.drop_succ_cons, List.drop_append, List.drop_of_length_le (by rw [h, Nat.add_mul]; omega), h, show (i + 1) * s - s = i * s by rw [Nat.add_mul]; omega, flatMap_drop f s h r i, List.nil_append]
theorem flatMap_len {α β : Type} (f : α → List β) (s : Nat) (h : ∀ x, (f x).length = s) (l : List α) : (l.flatMap f).length = l.length * s := by
  induction l with
  | nil => simp
  | cons x r ih => rw [List.flatMap_cons, List.length_append, ih, h, List.length_cons, Nat.add_mul]; omega
theorem flatMap_get {α β : Type} (f : α → List β) (s : Nat) (h : ∀ x, (f x).length = s) {l : List α} {k : Nat} {x : α} (hk : l[k]? = some x) {j : Nat} {u : β} (hj : (f x)[j]? = some u) : (l.flatMap f)[k * s + j]? = some u := by
  have h1 := flatMap_drop f s h l k
  have h2 : l.drop k = x :: l.drop (k + 1) := by
    obtain ⟨h3, h4⟩ := List.getElem?_eq_some_iff.1 hk
    rw [← h4, ← List.drop_eq_getElem_cons h3]
  rw [h2, List.flatMap_cons] at h1
  have h3 : ((l.flatMap f).drop (k * s))[j]? = some u := by rw [h1, List.getElem?_append_left (List.getElem?_eq_some_iff.1 hj).1]; exact hj
  rwa [List.getElem?_drop] at h3
end Go.Proofs.YtemegkapmgcffaaGreat
