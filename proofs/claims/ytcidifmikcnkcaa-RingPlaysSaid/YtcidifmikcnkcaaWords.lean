/- Words for the walks: what lies in memory, said of lists; the laws of append, make, conversions in these words. No program in sight. -/
import Derived.WalkKit
import Derived.WalkSpells
import Derived.WalkLawsBesides
import Derived.Lib.Hide
import Derived.ArgAppend
import Derived.Laws.AppendOwnNone
import Derived.Lib.ConvBytes
import Derived.Maps.AppendAt
import Derived.Laws.CopyOwn
import Derived.Laws.Slices
namespace Go.Proofs.Ytcidifmikcnkcaa
open Go.RowKit

theorem ret_int {k : IntKind} {a b : Int} (h : a = b) : Ending.returned (.int k a) = .returned (.int k b) := by rw [h]

/-- the cells of a list lie at an address, one behind the other -/
def Cells (w : World) (A : Option Addr) (cs : List Value) : Prop :=
  ∀ j u, cs[j]? = some u → ∃ ad, A = some ad ∧ w.cell? (ad.add j) = some u

theorem add_block (ad : Addr) (j : Nat) : (ad.add j).block = ad.block := by unfold Addr.add; split <;> rfl

theorem Cells.nil (w : World) (A : Option Addr) : Cells w A [] := fun j u h => by simp at h
/-- where the block stays, the cells stay -/
theorem Cells.block {w w' : World} {A : Option Addr} {cs : List Value} (h : Cells w A cs)
    (hb : ∀ ad, A = some ad → ad.block < w.heap.size → w'.heap[ad.block]? = w.heap[ad.block]?) : Cells w' A cs := by
  intro j u hj
  obtain ⟨ad, rfl, hc⟩ := h j u hj
  refine ⟨ad, rfl, ?_⟩
  have hlt := World.block_lt_of_cell? w _ hc
  rw [add_block] at hlt
  exact (World.cell?_of_block (by rw [add_block]; exact hb ad rfl hlt)).trans hc
theorem Cells.below {w w' : World} {A : Option Addr} {cs : List Value} (h : Cells w A cs) (hb : Below w.heap.size w w') : Cells w' A cs :=
  h.block fun _ _ hlt => hb.block _ hlt
theorem Cells.grown {w w' : World} {A : Option Addr} {cs : List Value} {row : Option Nat} (h : Cells w A cs) (hg : w.grownBy w' row)
    (hne : ∀ ad, A = some ad → some ad.block ≠ row) : Cells w' A cs :=
  h.block fun ad ha hlt => hg.block _ hlt (hne ad ha)
theorem Cells.alloc {w : World} {A : Option Addr} {cs : List Value} (h : Cells w A cs) (o : Obj) : Cells (w.alloc o) A cs :=
  h.below ((Below.refl _ _).alloc (Nat.le_refl _) o)
theorem Cells.drew {w : World} {A : Option Addr} {cs : List Value} (h : Cells w A cs) : Cells w.drew A cs := h
theorem Cells.append_left {w : World} {A : Option Addr} {cs ds : List Value} (h : Cells w A (cs ++ ds)) : Cells w A cs := by
  intro j u hj
  exact h j u (by rw [List.getElem?_append_left (List.getElem?_eq_some_iff.1 hj).1]; exact hj)

/-- a slice that can be read: its address, length, capacity, what it holds -/
structure Sl (w : World) (size : Nat) (A : Option Addr) (n c : Nat) (cs : List Value) : Prop where
  cells : Cells w A cs
  len : cs.length = n * size
  le : n ≤ c
  none : A = Option.none → n = 0 ∧ c = 0

theorem Sl.block {w w' : World} {size n c : Nat} {A : Option Addr} {cs : List Value} (h : Sl w size A n c cs)
    (hb : ∀ ad, A = some ad → ad.block < w.heap.size → w'.heap[ad.block]? = w.heap[ad.block]?) : Sl w' size A n c cs := ⟨h.cells.block hb, h.len, h.le, h.none⟩
theorem Sl.below {w w' : World} {size n c : Nat} {A : Option Addr} {cs : List Value} (h : Sl w size A n c cs) (hb : Below w.heap.size w w') : Sl w' size A n c cs :=
  ⟨h.cells.below hb, h.len, h.le, h.none⟩
theorem Sl.grown {w w' : World} {size n c : Nat} {A : Option Addr} {cs : List Value} {row : Option Nat} (h : Sl w size A n c cs) (hg : w.grownBy w' row)
    (hne : ∀ ad, A = some ad → some ad.block ≠ row) : Sl w' size A n c cs := ⟨h.cells.grown hg hne, h.len, h.le, h.none⟩
theorem Sl.nil (w : World) (size : Nat) : Sl w size Option.none 0 0 [] := ⟨Cells.nil _ _, by simp, Nat.le_refl _, fun _ => ⟨rfl, rfl⟩⟩

theorem ownsRow_sl {w : World} {base size n c : Nat} {e : TypeId} {A : Option Addr} {cs : List Value} (h : w.ownsRow base e size (.slice A n c) n cs) : Sl w size A n c cs := by
  refine ⟨?_, h.1, ?_, ?_⟩
  · intro j u hj
    rcases h.2 with ⟨hv, hn⟩ | ⟨g, cap, cur, hv, _⟩
    · have := h.1; subst hn; simp at this; subst this; simp at hj
    · simp only [Value.slice.injEq] at hv
      obtain ⟨rfl, _, rfl⟩ := hv
      exact ⟨_, rfl, h.cells rfl j u hj⟩
  · rcases h.2 with ⟨hv, hn⟩ | ⟨g, cap, cur, hv, _, _, hle, _⟩
    · omega
    · simp only [Value.slice.injEq] at hv; obtain ⟨_, _, rfl⟩ := hv; exact hle
  · intro hA
    rcases h.2 with ⟨hv, hn⟩ | ⟨g, cap, cur, hv, _⟩
    · simp only [Value.slice.injEq] at hv; exact ⟨hn, hv.2.2⟩
    · simp only [Value.slice.injEq] at hv; rw [hv.1] at hA; cases hA

/-- the block that may be written where a slice is appended to -/
def rowOf (base : Nat) (A : Option Addr) : Option Nat := A.bind fun a => if base ≤ a.block then some a.block else none
theorem rowOf_ge {base : Nat} {A : Option Addr} {k : Nat} (h : rowOf base A = some k) : base ≤ k := by
  unfold rowOf at h
  cases A with
  | none => simp at h
  | some a => simp at h; omega
theorem rowOf_none (base : Nat) : rowOf base none = none := rfl
theorem rowOf_some {base : Nat} {a : Addr} (h : base ≤ a.block) : rowOf base (some a) = some a.block := by simp [rowOf, h]
theorem rowOf_lt {base : Nat} {a : Addr} (h : a.block < base) : rowOf base (some a) = none := by
  simp [rowOf]; omega

/-- a slice that can be appended to: it is the call's own (from block base on), or it is full -/
def App (base : Nat) (e : TypeId) (size : Nat) (w : World) (A : Option Addr) (n c : Nat) (cs : List Value) : Prop :=
  w.ownsRow base e size (.slice A n c) n cs ∨ (Sl w size A n c cs ∧ n = c)

section
variable {base size n c : Nat} {e : TypeId} {w : World} {A : Option Addr} {cs : List Value}
theorem App.sl (h : App base e size w A n c cs) : Sl w size A n c cs := by
  rcases h with h | h
  · exact ownsRow_sl h
  · exact h.1
theorem App.nil (base : Nat) (e : TypeId) (size : Nat) (w : World) : App base e size w none 0 0 [] := .inl (World.ownsRow_nil _ _ _ _)
theorem App.kept {w' : World} {row : Option Nat} (h : App base e size w A n c cs) (hg : w.grownBy w' row) (hne : ∀ ad, A = some ad → some ad.block ≠ row) : App base e size w' A n c cs := by
  rcases h with h | h
  · refine .inl (h.kept hg ?_)
    cases A with
    | none => exact .inl rfl
    | some a => exact .inr (hne a rfl)
  · exact .inr ⟨h.1.grown hg hne, h.2⟩
theorem App.below {w' : World} (h : App base e size w A n c cs) (hb : Below w.heap.size w w') : App base e size w' A n c cs :=
  h.kept (row := none) ⟨hb.os, hb.tape, hb.output, hb.size, fun i hi _ => hb.block i hi⟩ (fun _ _ => by simp)
theorem App.alloc (h : App base e size w A n c cs) (o : Obj) : App base e size (w.alloc o) A n c cs := h.below ((Below.refl _ _).alloc (Nat.le_refl _) o)
theorem App.drew (h : App base e size w A n c cs) : App base e size w.drew A n c cs := h.below ((Below.refl _ _).drew)
theorem App.lower {base' : Nat} (h : App base e size w A n c cs) (hb : base' ≤ base) : App base' e size w A n c cs := by
  rcases h with h | h
  · refine .inl ⟨h.1, ?_⟩
    rcases h.2 with h | ⟨g, cap, cur, a, b, r⟩
    · exact .inl h
    · exact .inr ⟨g, cap, cur, a, by omega, r⟩
  · exact .inr h
end

theorem grownBy_none_row {w w' : World} (h : w.grownBy w' none) (row : Option Nat) : w.grownBy w' row := ⟨h.os, h.tape, h.output, h.size, fun k hk _ => h.block k hk (by simp)⟩
theorem grownBy_below {w w' : World} (h : w.grownBy w' none) : Below w.heap.size w w' := ⟨h.os, h.tape, h.output, h.size, fun k hk => h.block k hk (by simp)⟩
theorem below_grownBy {w w' : World} (h : Below w.heap.size w w') (row : Option Nat) : w.grownBy w' row := ⟨h.os, h.tape, h.output, h.size, fun k hk _ => h.block k hk⟩
theorem grownBy_trans {w w1 w2 : World} {row : Option Nat} (h : w.grownBy w1 row) (k : w1.grownBy w2 row) : w.grownBy w2 row :=
  ⟨k.os.trans h.os, k.tape.trans h.tape, k.output.trans h.output, Nat.le_trans h.size k.size, fun i hi hr => (k.block i (Nat.lt_of_lt_of_le hi h.size) hr).trans (h.block i hi hr)⟩
/-- a second step that writes another row, one that is new -/
theorem grownBy_trans' {w w1 w2 : World} {row row1 : Option Nat} (h : w.grownBy w1 row) (k : w1.grownBy w2 row1) (hr : row1 = row ∨ ∀ b, row1 = some b → w.heap.size ≤ b) : w.grownBy w2 row :=
  ⟨k.os.trans h.os, k.tape.trans h.tape, k.output.trans h.output, Nat.le_trans h.size k.size, fun i hi hne => by
    refine (k.block i (Nat.lt_of_lt_of_le hi h.size) ?_).trans (h.block i hi hne)
    rcases hr with rfl | hr
    · exact hne
    · intro e; have := hr i e.symm; omega⟩

theorem run_append_zero {P : Program} (w : World) (t ty e : TypeId) (i : TypeInfo) (ht : P.underlying t = some (.slice e)) (hi : P.info? e = some i)
    (a : Addr) (n c : Nat) (hc : n ≤ c) (B : Option Addr) (c' : Nat) :
    (Builtin.append_ #[t, t] ty #[.slice (some a) n c, .slice B 0 c']).run P w = .ok (.slice (some a) n c) w := by
  cases B <;> simp [Builtin.append_, run_underlying ht, sizeOf, typeInfo, hi, Builtin.lenOf, Builtin.firstCells, hc, storeCells, loadCells, loadCellsFrom]

/-- where a slice lies behind appends: where it lay, or in new memory -/
def From (w : World) (A A' : Option Addr) : Prop := ∀ a', A' = some a' → (∃ a, A = some a ∧ a.block = a'.block) ∨ w.heap.size ≤ a'.block
theorem From.refl (w : World) (A : Option Addr) : From w A A := fun a h => .inl ⟨a, h, rfl⟩
theorem From.trans {w w1 : World} {A A1 A2 : Option Addr} (h : From w A A1) (k : From w1 A1 A2) (hs : w.heap.size ≤ w1.heap.size) : From w A A2 := by
  intro a2 h2
  rcases k a2 h2 with ⟨a1, h1, e1⟩ | hn
  · rcases h a1 h1 with ⟨a, ha, e⟩ | hn
    · exact .inl ⟨a, ha, e.trans e1⟩
    · exact .inr (by omega)
  · exact .inr (by omega)
theorem From.row {w : World} {base : Nat} {A A' : Option Addr} (h : From w A A') : rowOf base A' = rowOf base A ∨ ∀ b, rowOf base A' = some b → w.heap.size ≤ b := by
  cases A' with
  | none => exact .inr (fun b hb => by simp [rowOf] at hb)
  | some a' =>
    rcases h a' rfl with ⟨a, rfl, e⟩ | hn
    · exact .inl (by simp [rowOf, e])
    · exact .inr (fun b hb => by simp [rowOf] at hb; omega)
theorem From.none (w : World) (A : Option Addr) : From w A Option.none := fun a h => by cases h

/-- behind appends to a slice: it can be appended to; its own row alone was written; where it lies -/
structure AppTo (base : Nat) (e : TypeId) (size : Nat) (w w' : World) (A A' : Option Addr) (n c : Nat) (cs : List Value) : Prop where
  app : App base e size w' A' n c cs
  grown : w.grownBy w' (rowOf base A)
  lies : From w A A'

theorem AppTo.refl {base : Nat} {e : TypeId} {size : Nat} {w : World} {A : Option Addr} {n c : Nat} {cs : List Value} (h : App base e size w A n c cs) : AppTo base e size w w A A n c cs :=
  ⟨h, World.grownBy.refl _ _, From.refl _ _⟩
theorem AppTo.trans {base : Nat} {e : TypeId} {size : Nat} {w w1 w2 : World} {A A1 A2 : Option Addr} {n1 c1 n2 c2 : Nat} {cs1 cs2 : List Value}
    (h : AppTo base e size w w1 A A1 n1 c1 cs1) (k : AppTo base e size w1 w2 A1 A2 n2 c2 cs2) : AppTo base e size w w2 A A2 n2 c2 cs2 :=
  ⟨k.app, grownBy_trans' h.grown k.grown h.lies.row, h.lies.trans k.lies h.grown.size⟩
/-- something new is made in between -/
theorem AppTo.after {base : Nat} {e : TypeId} {size : Nat} {w w1 w2 : World} {A A2 : Option Addr} {n2 c2 : Nat} {cs2 : List Value}
    (h : Below w.heap.size w w1) (k : AppTo base e size w1 w2 A A2 n2 c2 cs2) : AppTo base e size w w2 A A2 n2 c2 cs2 :=
  ⟨k.app, grownBy_trans (below_grownBy h _) k.grown, (From.refl w A).trans k.lies h.size⟩
theorem AppTo.then_ {base : Nat} {e : TypeId} {size : Nat} {w w1 w2 : World} {A A1 : Option Addr} {n1 c1 : Nat} {cs1 : List Value}
    (h : AppTo base e size w w1 A A1 n1 c1 cs1) (k : Below w1.heap.size w1 w2) : AppTo base e size w w2 A A1 n1 c1 cs1 :=
  ⟨h.app.below k, grownBy_trans h.grown (below_grownBy k _), h.lies⟩
theorem AppTo.below {base : Nat} {e : TypeId} {size : Nat} {w w1 : World} {A A1 : Option Addr} {n1 c1 : Nat} {cs1 : List Value}
    (h : AppTo base e size w w1 A A1 n1 c1 cs1) (hb : base ≤ w.heap.size) : Below base w w1 :=
  (Below.refl _ _).grown h.grown hb (fun _ hk => rowOf_ge hk)

/-- append, in these words -/
theorem run_app {P : Program} (w : World) (base : Nat) (t ty e : TypeId) (z : Value) (size bytes : Nat) (ht : P.underlying t = some (.slice e))
    (hinfo : (P.info? e).map (fun i => (i.zero, i.size, i.bytes)) = some (some z, size, bytes)) (hzs : z.cells.size = size) (hsz : 0 < size)
    (A : Option Addr) (n c : Nat) (xs : List Value) (happ : App base e size w A n c xs)
    (B : Option Addr) (m c' : Nat) (news : List Value) (hsl : Sl w size B m c' news) (h1 : ∀ u ∈ news, u.oneCell' = true)
    (h63 : n + m ≤ maxLen) (hbytes : (n + m) * bytes ≤ 140737488355328) (hbase : base ≤ w.heap.size) :
    ∃ A' d w', (Builtin.append_ #[t, t] ty #[.slice A n c, .slice B m c']).run P w = .ok (.slice A' (n + m) d) w' ∧
      AppTo base e size w w' A A' (n + m) d (xs ++ news) := by
  obtain ⟨i, hi, hz, hs, hb⟩ := info_parts hinfo
  by_cases hown : w.ownsRow base e size (.slice A n c) n xs
  · have hrow : (Value.slice A n c).ownBlock = rowOf base A := by
      cases A with
      | none => rfl
      | some a => rw [rowOf_some (hown.lt a.block rfl).1]; rfl
    cases B with
    | none =>
      obtain ⟨rfl, rfl⟩ := hsl.none rfl
      have hn : news = [] := List.eq_nil_of_length_eq_zero (by simpa using hsl.len)
      subst hn
      have hrun := run_append_owned_none (P := P) (w := w) base t ty e i size ht hi _ n xs hown
      exact ⟨A, c, w, hrun, by rw [List.append_nil]; exact AppTo.refl (Or.inl hown)⟩
    | some b =>
      obtain ⟨v', w', hrun, h2, h3, h4, h5⟩ := run_append_own_at (P := P) w base t ty e i z size bytes ht hi hz hs hb hzs hsz (.slice A n c) n xs hown b m c' news hsl.len
        (fun j u hj => by obtain ⟨ad, e, h⟩ := hsl.cells j u hj; cases e; exact h) h1 h63 hbytes hbase
      have hv : ∃ A' d, v' = .slice A' (n + m) d := by
        rcases h2.2 with ⟨rfl, h0⟩ | ⟨g, cap, cur, rfl, _⟩
        · exact ⟨none, 0, by rw [h0]⟩
        · exact ⟨_, _, rfl⟩
      obtain ⟨A', d, rfl⟩ := hv
      refine ⟨A', d, w', hrun, .inl h2, hrow ▸ h3, ?_⟩
      intro a' ha'
      subst ha'
      rcases h5 with h5 | h5
      · cases A with
        | none => simp [Value.ownBlock] at h5
        | some a => exact .inl ⟨a, rfl, by simp [Value.ownBlock] at h5; exact h5.symm⟩
      · exact .inr (by simp [Value.ownBlock] at h5; omega)
  · obtain ⟨hf, hnc⟩ := happ.resolve_left hown
    subst hnc
    cases A with
    | none =>
      exfalso; apply hown
      obtain ⟨rfl, _⟩ := hf.none rfl
      have hx : xs = [] := List.eq_nil_of_length_eq_zero (by simpa using hf.len)
      subst hx
      exact World.ownsRow_nil _ _ _ _
    | some a =>
      by_cases hm : m = 0
      · subst hm
        have hn : news = [] := List.eq_nil_of_length_eq_zero (by simpa using hsl.len)
        subst hn
        refine ⟨some a, n, w, run_append_zero w t ty e i ht hi a n n (Nat.le_refl _) B c', ?_⟩
        rw [List.append_nil]; exact AppTo.refl (Or.inr ⟨hf, rfl⟩)
      · cases B with
        | none => exact absurd (hsl.none rfl).1 hm
        | some b =>
          obtain ⟨v', w', hrun, r1, r2⟩ := run_append_arg_grows (P := P) w t ty e i z size bytes ht hi hz hs hb hzs hsz a n n xs hf.len
            (fun j u hj => by obtain ⟨ad, e, h⟩ := hf.cells j u hj; cases e; exact h) b m c' news hsl.len
            (fun j u hj => by obtain ⟨ad, e, h⟩ := hsl.cells j u hj; cases e; exact h) (by omega) h63 hbytes
          have hv : ∃ A' d, v' = .slice A' (n + m) d := by
            rcases r1.2 with ⟨rfl, h0⟩ | ⟨g, cap, cur, rfl, _⟩
            · exact ⟨none, 0, by rw [h0]⟩
            · exact ⟨_, _, rfl⟩
          obtain ⟨A', d, rfl⟩ := hv
          exact ⟨A', d, w', hrun, (App.lower (.inl r1) hbase), grownBy_none_row r2 _, fun a' ha' => .inr (by subst ha'; exact (r1.lt a'.block rfl).1)⟩

theorem wpList_app {P : Program} (w : World) {ops : Array Oper} {rest : List Oper} {o : Oper} {a : Act} {Q : Exit → Act → World → Prop} (hgd : o.guard = none) (s x : Operand) (t : TypeId)
    (ho : o.op = .call { callee := .builtin .append, args := #[s, x], argTypes := #[t, t] })
    (base : Nat) (e : TypeId) (z : Value) (size bytes : Nat) (ht : P.underlying t = some (.slice e))
    (hinfo : (P.info? e).map (fun i => (i.zero, i.size, i.bytes)) = some (some z, size, bytes)) (hzs : z.cells.size = size) (hsz : 0 < size)
    (A : Option Addr) (n c : Nat) (xs : List Value) (hs : a.eval s = .slice A n c) (happ : App base e size w A n c xs)
    (B : Option Addr) (m c' : Nat) (news : List Value) (hx : a.eval x = .slice B m c') (hsl : Sl w size B m c' news) (h1 : ∀ u ∈ news, u.oneCell' = true)
    (h63 : n + m ≤ maxLen) (hbytes : (n + m) * bytes ≤ 140737488355328) (hbase : base ≤ w.heap.size)
    (h : ∀ A' d w', AppTo base e size w w' A A' (n + m) d (xs ++ news) → wpList P ops Q rest (a.put o.dst (.slice A' (n + m) d)) w') :
    wpList P ops Q (o :: rest) a w := by
  refine wpList_plain hgd fun K hK => ?_
  obtain ⟨A', d, w', hrun, h2⟩ := run_app (P := P) w base t o.type e z size bytes ht hinfo hzs hsz A n c xs happ B m c' news hsl h1 h63 hbytes hbase
  unfold Oper.wp
  simp [execOp, ho, resolve, invoke, builtin, hs, hx, hrun, Result.andThen]
  exact hK _ _ (h A' d w' h2)


/-- bytes as cells -/
def byteV (b : UInt8) : Value := .int .u8 (b.toNat : Int)
def bytesV (l : List UInt8) : List Value := l.map byteV
theorem bytesV_length (l : List UInt8) : (bytesV l).length = l.length := by simp [bytesV]
theorem bytesV_append (l m : List UInt8) : bytesV (l ++ m) = bytesV l ++ bytesV m := by simp [bytesV]
theorem bytesV_one (l : List UInt8) : ∀ u ∈ bytesV l, u.oneCell' = true := by
  intro u hu; simp [bytesV] at hu; obtain ⟨b, _, rfl⟩ := hu; rfl
theorem bytesV_nil : bytesV [] = [] := rfl
section
variable {w : World} {A : Option Addr} {n c : Nat} {l : List UInt8}
theorem Sl.blen (h : Sl w 1 A n c (bytesV l)) : l.length = n := by have := h.len; rw [bytesV_length] at this; omega
theorem Sl.byte (h : Sl w 1 A n c (bytesV l)) (k : Nat) (hk : k < l.length) : ∃ ad, A = some ad ∧ w.cell? (ad.add k) = some (.int .u8 (l[k].toNat : Int)) :=
  h.cells k _ (by simp [bytesV, byteV, hk])
end
theorem Sl.byteAt {w : World} {A : Option Addr} {n c : Nat} {l : List UInt8} (h : Sl w 1 A n c (bytesV l)) {k : Nat} {x : UInt8} (hx : l[k]? = some x) : ∃ ad, A = some ad ∧ w.cell? (ad.add k) = some (.int .u8 (x.toNat : Int)) :=
  h.cells k _ (by simp [bytesV, byteV, hx])
theorem get_some {α : Type} (l : List α) (k : Nat) (h : k < l.length) : ∃ x, l[k]? = some x := ⟨l[k], by simp [h]⟩
theorem sl_one (w : World) (u : Value) (e : TypeId) : Sl (w.alloc (.cells #[u] e)) 1 (some ⟨w.heap.size, 0, none⟩) 1 1 [u] :=
  ⟨fun j x hj => ⟨_, rfl, cell_one_new w u e j x hj⟩, rfl, Nat.le_refl _, fun h => by cases h⟩
theorem below_alloc1 (w : World) (o : Obj) : Below w.heap.size w (w.alloc o) := (Below.refl _ _).alloc (Nat.le_refl _) o


/-- the same block -/
def SameBlk (A A' : Option Addr) : Prop := ∀ a', A' = some a' → ∃ a, A = some a ∧ a.block = a'.block
theorem SameBlk.refl (A : Option Addr) : SameBlk A A := fun a h => ⟨a, h, rfl⟩

section cuts
variable {P : Program}
theorem add_add (ad : Addr) (i j : Nat) : (ad.add i).add j = ad.add (i + j) := by
  unfold Addr.add
  by_cases h1 : i = 0 <;> by_cases h2 : j = 0 <;> simp [h1, h2, Nat.add_assoc]
theorem Cells.drop {w : World} {A : Option Addr} {cs : List Value} (h : Cells w A cs) (k : Nat) : Cells w (A.map (·.add k)) (cs.drop k) := by
  intro j u hj
  rw [List.getElem?_drop] at hj
  obtain ⟨ad, rfl, hc⟩ := h _ u hj
  exact ⟨ad.add k, rfl, by rw [add_add]; exact hc⟩
theorem Cells.take {w : World} {A : Option Addr} {cs : List Value} (h : Cells w A cs) (k : Nat) : Cells w A (cs.take k) := by
  intro j u hj
  rw [List.getElem?_take] at hj
  split at hj
  · exact h j u hj
  · cases hj
theorem Sl.from_ {w : World} {size n c : Nat} {A : Option Addr} {cs : List Value} (h : Sl w size A n c cs) (m : Nat) (hm : m ≤ n) :
    Sl w size (if c = m then A else A.map (·.add (m * size))) (n - m) (c - m) (cs.drop (m * size)) := by
  have hle := h.le
  refine ⟨?_, by rw [List.length_drop, h.len, Nat.sub_mul], by omega, ?_⟩
  · by_cases hc : c = m
    · have : cs.drop (m * size) = [] := List.drop_eq_nil_of_le (by rw [h.len, show n = m by omega]; exact Nat.le_refl _)
      rw [this]; exact Cells.nil _ _
    · rw [if_neg hc]; exact h.cells.drop _
  · intro hn
    have hA : A = Option.none := by
      by_cases hc : c = m
      · rw [if_pos hc] at hn; exact hn
      · rw [if_neg hc] at hn; simpa using hn
    have := h.none hA; omega
theorem sameBlk_from (A : Option Addr) (c m k : Nat) : SameBlk A (if c = m then A else A.map (·.add k)) := by
  intro a' ha'
  split at ha'
  · exact ⟨a', ha', rfl⟩
  · cases A with
    | none => simp at ha'
    | some a => simp at ha'; exact ⟨a, rfl, by rw [← ha', add_block]⟩
theorem Sl.to_ {w : World} {size n c : Nat} {A : Option Addr} {cs : List Value} (h : Sl w size A n c cs) (m : Nat) (hm : m ≤ n) :
    Sl w size A m c (cs.take (m * size)) := by
  refine ⟨h.cells.take _, ?_, by have := h.le; omega, fun hA => by have := h.none hA; omega⟩
  rw [List.length_take, h.len]
  exact Nat.min_eq_left (Nat.mul_le_mul_right _ hm)
theorem Sl.cap {w : World} {size n c c' : Nat} {A : Option Addr} {cs : List Value} (h : Sl w size A n c cs) (hc : n ≤ c') (h0 : c = 0 → c' = 0) : Sl w size A n c' cs :=
  ⟨h.cells, h.len, hc, fun hA => by have := h.none hA; exact ⟨this.1, h0 this.2⟩⟩

/-- xs[m:] -/
theorem cut_from (t e : TypeId) (kl : IntKind) {i : TypeInfo} (ht : P.underlying t = some (.slice e)) (hi : P.info? e = some i) (A : Option Addr) (n c m : Nat) (M : Int) (hM : M = (m : Int)) (hm : m ≤ n) :
    ∃ A' : Option Addr, (∀ W : World, (Instr.slice t (.slice A n c) (some (.int kl M)) none none).run P W = .ok (.slice A' (n - m) (c - m)) W) ∧ SameBlk A A' ∧
      ∀ (w : World) (cs : List Value), Sl w i.size A n c cs → Sl w i.size A' (n - m) (c - m) (cs.drop (m * i.size)) := by
  subst hM
  refine ⟨if c = m then A else A.map (·.add (m * i.size)), fun W => ?_, sameBlk_from _ _ _ _, fun w cs h => h.from_ m hm⟩
  have hel : P.elem t = e := by simp [Program.elem, ht]
  have hu : P.underlying t = some (.slice (P.elem t)) := by rw [hel]; exact ht
  rw [run_slice_l W t A n c hu kl (m : Int) (Int.natCast_nonneg _) (by omega), hel]
  simp [sizeOf, typeInfo, hi, sliced, Result.andThen]
/-- xs[:m] -/
theorem cut_to (t e : TypeId) (kl : IntKind) {i : TypeInfo} (ht : P.underlying t = some (.slice e)) (hi : P.info? e = some i) (A : Option Addr) (n c m : Nat) (M : Int) (hM : M = (m : Int)) (hm : m ≤ c) (W : World) :
    (Instr.slice t (.slice A n c) none (some (.int kl M)) none).run P W = .ok (.slice A m c) W := by
  subst hM
  have hel : P.elem t = e := by simp [Program.elem, ht]
  have hu : P.underlying t = some (.slice (P.elem t)) := by rw [hel]; exact ht
  have ha : (A.map fun x => x.add 0) = A := by cases A <;> simp [Addr.add]
  rw [run_slice_h W t A n c hu kl m (by omega) (by omega), hel]
  simp [sizeOf, typeInfo, hi, sliced, Result.andThen, ha]
/-- xs[:m:k] -/
theorem cut_to_max (t e : TypeId) (kl km : IntKind) {i : TypeInfo} (ht : P.underlying t = some (.slice e)) (hi : P.info? e = some i) (A : Option Addr) (n c m k : Nat) (M K : Int) (hM : M = (m : Int)) (hK : K = (k : Int)) (hm : m ≤ k) (hk : k ≤ c) (W : World) :
    (Instr.slice t (.slice A n c) none (some (.int kl M)) (some (.int km K))).run P W = .ok (.slice A m k) W := by
  subst hM hK
  have hel : P.elem t = e := by simp [Program.elem, ht]
  have hu : P.underlying t = some (.slice (P.elem t)) := by rw [hel]; exact ht
  have ha : (A.map fun x => x.add 0) = A := by cases A <;> simp [Addr.add]
  rw [run_slice_hm W t A n c hu kl km m k (by omega) (by omega) (by omega), hel]
  simp [sizeOf, typeInfo, hi, sliced, Result.andThen, ha]
/-- xs[l:m] -/
theorem cut_mid (t e : TypeId) (kl kh : IntKind) {i : TypeInfo} (ht : P.underlying t = some (.slice e)) (hi : P.info? e = some i) (A : Option Addr) (n c l m : Nat) (L M : Int) (hL : L = (l : Int)) (hM : M = (m : Int)) (hlm : l ≤ m) (hm : m ≤ n) (hc : n ≤ c) :
    ∃ A' : Option Addr, (∀ W : World, (Instr.slice t (.slice A n c) (some (.int kl L)) (some (.int kh M)) none).run P W = .ok (.slice A' (m - l) (c - l)) W) ∧ SameBlk A A' ∧
      ∀ (w : World) (cs : List Value), Sl w i.size A n c cs → Sl w i.size A' (m - l) (c - l) ((cs.take (m * i.size)).drop (l * i.size)) := by
  subst hL hM
  refine ⟨if c = l then A else A.map (·.add (l * i.size)), fun W => ?_, sameBlk_from _ _ _ _, fun w cs h => (h.to_ m hm).from_ l hlm⟩
  have hel : P.elem t = e := by simp [Program.elem, ht]
  have hu : P.underlying t = some (.slice (P.elem t)) := by rw [hel]; exact ht
  rw [run_slice_lh W t A n c hu kl kh l m (by omega) (by omega) (by omega), hel]
  simp [sizeOf, typeInfo, hi, sliced, Result.andThen]
end cuts

theorem SameBlk.none {A' : Option Addr} (h : SameBlk none A') : A' = none := by
  cases A' with
  | none => rfl
  | some a => obtain ⟨_, h, _⟩ := h a rfl; cases h
theorem SameBlk.trans {A B C : Option Addr} (h : SameBlk A B) (k : SameBlk B C) : SameBlk A C := by
  intro c hc
  obtain ⟨b, hb, e⟩ := k c hc
  obtain ⟨a, ha, e'⟩ := h b hb
  exact ⟨a, ha, e'.trans e⟩

/-- copy into a row of the call's own -/
theorem wpList_copy_row {P : Program} {w : World} {ops : Array Oper} {rest : List Oper} {o : Oper} {a : Act} {Q : Exit → Act → World → Prop} (hgd : o.guard = none) (dd ss : Operand) (dT sT : TypeId)
    (ho : o.op = .call { callee := .builtin .copy, args := #[dd, ss], argTypes := #[dT, sT] }) (e : TypeId) (hu : P.underlying dT = some (.slice e)) (hsz : (P.info? e).map (·.size) = some 1)
    (base : Nat) (A B : Option Addr) (n c m d : Nat) (xs ys : List Value) (hd : a.eval dd = .slice A n c) (hs : a.eval ss = .slice B m d)
    (hown : w.ownsRow base e 1 (.slice A n c) n xs) (hsl : Sl w 1 B m d ys) (h1 : ∀ v ∈ ys, v.oneCell' = true)
    (h : ∀ w', w'.ownsRow base e 1 (.slice A n c) n (ys.take (min m n) ++ xs.drop (min m n)) → w.grownBy w' (rowOf base A) → wpList P ops Q rest (a.put o.dst (.int .i64 ((min m n : Nat) : Int))) w') :
    wpList P ops Q (o :: rest) a w := by
  by_cases h0 : min m n = 0
  · refine wpList_copy_nothing hgd dd ss dT sT ho e hu hsz A B n c m d hd hs h0 ?_
    have := h w (by rw [h0]; simpa using hown) (World.grownBy.refl _ _)
    rw [h0] at this
    exact this
  · rcases hown.2 with ⟨hv, hn⟩ | ⟨g, cap, cur, hv, hbg, hg, hle, hcm, hcs, htake⟩
    · omega
    · simp only [Value.slice.injEq] at hv
      obtain ⟨rfl, _, rfl⟩ := hv
      cases B with
      | none => have := hsl.none rfl; omega
      | some b =>
        have hyl := hsl.len
        have hxl := hown.1
        simp only [Nat.mul_one] at hyl hxl hcs htake
        have htl : (ys.take (min m n)).length = min m n := by rw [List.length_take]; omega
        refine wpList_copy_own hgd dd ss dT sT ho e hu hsz g 0 n c b m d hd hs cur e hg (ys.take (min m n)) (by rw [htl])
          (fun j v hj => by obtain ⟨ad, h1, h2⟩ := (hsl.cells.take _) j v hj; cases h1; exact h2) (by rw [htl]; omega) (fun v hv => h1 v (List.mem_of_mem_take hv)) ?_
        rw [htl]
        refine h _ ?_ ?_
        · have hcl : cur.toList.length = c := by rw [Array.length_toList]; exact hcs
          refine ⟨by simp [hyl, hxl]; omega, .inr ⟨g, c, _, rfl, hbg, setRow_heap w g cur _ e _ hg, hle, hcm, ?_, ?_⟩⟩
          · simp [hyl]; omega
          · simp only [List.take_zero, List.nil_append, Nat.zero_add, Nat.mul_one]
            rw [← htake]
            apply List.ext_getElem?
            intro j
            simp only [List.getElem?_take, List.getElem?_append, List.getElem?_drop, htl]
            split
            · split
              · rfl
              · rw [if_pos (by omega)]
            · split
              · omega
              · rw [if_neg (by omega)]
        · rw [rowOf_some hbg]
          exact ⟨rfl, rfl, rfl, by simp [World.setRow], fun k _ hk => setRow_other w g k _ (fun e => hk (by simp [e]))⟩

end Go.Proofs.Ytcidifmikcnkcaa
