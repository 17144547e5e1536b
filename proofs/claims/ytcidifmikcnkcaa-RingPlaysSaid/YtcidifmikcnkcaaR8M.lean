import Derived.Test.YtcidifmikcnkcaaPureR8
import Derived.Test.YtcidifmikcnkcaaRingO
/- The document's rings, by value: how they stand in memory. -/
namespace Go.Proofs.Ytcidifmikcnkcaa
open Go.RowKit
set_option linter.unusedSimpArgs false
set_option linter.unusedVariables false

/-- a queue of the document's, and where its numbers lie -/
structure QE where
  nm : Nm
  q : Qu
  A : Option Addr
  c : Nat
def qeC (e : QE) : List Value := [.string (bstr e.nm), .int .i64 e.q.most, .slice e.A e.q.l.length e.c]
def flatQE (es : List QE) : List Value := es.flatMap qeC
def QE.p (e : QE) : Nm × Qu := (e.nm, e.q)
theorem slQE_at {w : World} {ad : Addr} {m d : Nat} {es : List QE} (h : Sl w 3 (some ad) m d (flatQE es)) {k : Nat} {e : QE} (hk : es[k]? = some e) (j : Nat) (u : Value) (hj : (qeC e)[j]? = some u) : w.cell? ((ad.add (k * 3)).add j) = some u := by
  obtain ⟨a, h1, h2⟩ := h.cells (k * 3 + j) u (flatMap_get qeC 3 (fun _ => rfl) hk hj)
  cases h1
  rwa [addr_add_add]
theorem slQE_len {w : World} {A : Option Addr} {m d : Nat} {es : List QE} (h : Sl w 3 A m d (flatQE es)) : es.length = m := by
  have := h.len
  unfold flatQE at this
  rw [flatMap_len qeC 3 (fun _ => rfl)] at this
  omega
theorem slQE_addr {w : World} {A : Option Addr} {m d : Nat} {es : List QE} (h : Sl w 3 A m d (flatQE es)) {k : Nat} {e : QE} (hk : es[k]? = some e) : ∃ ad, A = some ad := by
  obtain ⟨a, h1, h2⟩ := h.cells (k * 3 + 0) _ (flatMap_get qeC 3 (fun _ => rfl) hk (j := 0) rfl)
  exact ⟨a, h1⟩
theorem slQE_three {w : World} {ad : Addr} {m d : Nat} {es : List QE} (h : Sl w 3 (some ad) m d (flatQE es)) {k : Nat} {e : QE} (hk : es[k]? = some e) :
    w.cell? (ad.add (k * 3)) = some (.string (bstr e.nm)) ∧ w.cell? { block := (ad.add (k * 3)).block, off := (ad.add (k * 3)).off + 1, spot := none } = some (.int .i64 e.q.most) ∧
    w.cell? { block := (ad.add (k * 3)).block, off := (ad.add (k * 3)).off + 2, spot := none } = some (.slice e.A e.q.l.length e.c) := by
  have key := fun j u hj => slQE_at h hk j u hj
  exact ⟨key 0 _ rfl, key 1 _ rfl, key 2 _ rfl⟩
/-- rows of whole numbers, or of queues, that G allows -/
def RowG (G : Nat → Prop) (w : World) (A : Option Addr) (vs : List Value) : Prop := vs ≠ [] → ∀ a, A = some a → a.block < w.heap.size ∧ G a.block
structure R8 (G : Nat → Prop) (w : World) (A : Option Addr) (n c : Nat) (es : List QE) : Prop where
  sl : Sl w 3 A n c (flatQE es)
  lies : RowG G w A (flatQE es)
  ok : ∀ e, e ∈ es → Sl w 1 e.A e.q.l.length e.c (intsL e.q.l) ∧ RowG G w e.A (intsL e.q.l)
theorem RowG.size {G : Nat → Prop} {w w' : World} {A : Option Addr} {vs : List Value} (h : RowG G w A vs) (hs : w.heap.size ≤ w'.heap.size) : RowG G w' A vs := fun hne a ha => ⟨Nat.lt_of_lt_of_le (h hne a ha).1 hs, (h hne a ha).2⟩
theorem R8.below {G : Nat → Prop} {w w' : World} {A : Option Addr} {n c : Nat} {es : List QE} (h : R8 G w A n c es) (hb : Below w.heap.size w w') : R8 G w' A n c es :=
  ⟨h.sl.below hb, h.lies.size hb.size, fun e he => ⟨(h.ok e he).1.below hb, (h.ok e he).2.size hb.size⟩⟩
theorem sl_same {w w' : World} {size n c : Nat} {A : Option Addr} {cs : List Value} (h : Sl w size A n c cs) (hk : ∀ a, A = some a → w'.heap[a.block]? = w.heap[a.block]?) : Sl w' size A n c cs :=
  ⟨fun j v hj => by
    obtain ⟨a, ha, hc⟩ := h.cells j v hj
    refine ⟨a, ha, ?_⟩
    rw [← hc]
    exact World.cell?_of_block (by rw [add_block]; exact hk a ha), h.len, h.le, h.none⟩
theorem sl_empty {w w' : World} {size n c : Nat} {A : Option Addr} (h : Sl w size A n c []) : Sl w' size A n c [] := ⟨fun j u hj => by simp at hj, h.len, h.le, h.none⟩
theorem sl_moved {w w' : World} {size n c : Nat} {A : Option Addr} {vs : List Value} (h : Sl w size A n c vs) (hk : vs ≠ [] → ∀ a, A = some a → w'.heap[a.block]? = w.heap[a.block]?) : Sl w' size A n c vs := by
  by_cases h0 : vs = []
  · subst h0; exact sl_empty h
  · exact sl_same h (hk h0)
theorem R8.chg {lab lab' : Nat → Option Lab} {w w' : World} {A : Option Addr} {n c : Nat} {es : List QE} (h : R8 (fun q => lab q = none) w A n c es) (hc : Chg lab lab' w w') : R8 (fun q => lab' q = none) w' A n c es := by
  have hg : ∀ {A : Option Addr} {vs : List Value}, RowG (fun q => lab q = none) w A vs → RowG (fun q => lab' q = none) w' A vs := fun {A vs} hr hne a ha => ⟨Nat.lt_of_lt_of_le (hr hne a ha).1 hc.size, hc.none (hr hne a ha).1 (hr hne a ha).2⟩
  exact ⟨sl_moved h.sl (fun hne a ha => hc.block _ (h.lies hne a ha).1 (h.lies hne a ha).2), hg h.lies, fun e he => ⟨sl_moved (h.ok e he).1 (fun hne a ha => hc.block _ ((h.ok e he).2 hne a ha).1 ((h.ok e he).2 hne a ha).2), hg (h.ok e he).2⟩⟩
theorem infoQ8 : (Try.prog.info? 53).map (fun i => (i.zero, i.size, i.bytes)) = some (some (.agg #[.string ⟨#[]⟩, .int .i64 0, .slice none 0 0]), 3, 48) := by kernel_rfl
theorem sl_lit3Q (w : World) (cs : List Value) (t : TypeId) (n : Nat) (h : cs.length = n * 3) : Sl (w.alloc (.cells cs.toArray t)) 3 (some ⟨w.heap.size, 0, none⟩) n n cs := by
  refine ⟨fun j u hj => ⟨_, rfl, ?_⟩, h, Nat.le_refl _, fun h => by cases h⟩
  rw [add_plain, cell_of_row _ w.heap.size j cs.toArray t (0, 0) (heap_alloc_new w _)]
  simpa using hj
/-- rows of queues that grow, in memory of the call's own -/
structure Rw8 (B0 : Nat) (w : World) (A : Option Addr) (n c : Nat) (xs : List QE) : Prop where
  app : App B0 53 3 w A n c (flatQE xs)
  none : xs = [] → A = none
  lies : ∀ a, A = some a → B0 ≤ a.block ∧ a.block < w.heap.size
theorem Rw8.nil (B0 : Nat) (w : World) : Rw8 B0 w Option.none 0 0 [] := ⟨App.nil _ _ _ _, fun _ => rfl, fun a ha => by cases ha⟩
theorem Rw8.below {B0 : Nat} {w w' : World} {A : Option Addr} {n c : Nat} {xs : List QE} (h : Rw8 B0 w A n c xs) (hb : Below w.heap.size w w') : Rw8 B0 w' A n c xs :=
  ⟨h.app.below hb, h.none, fun a ha => ⟨(h.lies a ha).1, Nat.lt_of_lt_of_le (h.lies a ha).2 hb.size⟩⟩
theorem flatQ_ne {xs : List QE} (h : xs ≠ []) : flatQE xs ≠ [] := by
  cases xs with
  | nil => exact absurd rfl h
  | cons x r => simp [flatQE, qeC]
theorem flatQ_app (xs : List QE) (e : QE) : flatQE xs ++ qeC e = flatQE (xs ++ [e]) := by simp [flatQE]
theorem Rw8.held {B0 : Nat} {w : World} {A : Option Addr} {n c : Nat} {xs : List QE} (h : App B0 53 3 w A n c (flatQE xs)) (hne : xs ≠ []) : ∀ a, A = some a → a.block < w.heap.size := fun a ha => by
  obtain ⟨v, t, hv⟩ := List.exists_cons_of_ne_nil (flatQ_ne hne)
  obtain ⟨ad, h6, h7⟩ := h.sl.cells 0 v (by rw [hv]; rfl)
  rw [ha] at h6
  cases h6
  have h8 := World.block_lt_of_cell? _ _ h7
  rwa [add_block] at h8
theorem Rw8.grow {B0 : Nat} {w w' : World} {A A' : Option Addr} {n c m d : Nat} {xs ys : List QE} (h : Rw8 B0 w A n c xs) (hat : AppTo B0 53 3 w w' A A' m d (flatQE ys)) (hne : ys ≠ []) (hB : B0 ≤ w.heap.size) : Rw8 B0 w' A' m d ys :=
  ⟨hat.app, fun e => absurd e hne, fun a ha => ⟨by
    rcases hat.lies a ha with ⟨a0, k1, k2⟩ | k1
    · rw [← k2]; exact (h.lies a0 k1).1
    · omega, Rw8.held hat.app hne a ha⟩⟩
theorem Rw8.grownB {B0 : Nat} {w w' : World} {A A' : Option Addr} {m d : Nat} {ys : List QE} (hat : AppTo B0 53 3 w w' A A' m d (flatQE ys)) (hB : B0 ≤ w.heap.size) : Below B0 w w' :=
  (Below.refl B0 w).grown hat.grown hB (fun k hk => rowOf_ge hk)
end Go.Proofs.Ytcidifmikcnkcaa
