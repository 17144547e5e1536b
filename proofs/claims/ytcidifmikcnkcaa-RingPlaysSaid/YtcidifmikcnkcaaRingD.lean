import Derived.Test.YtcidifmikcnkcaaRingC
import Derived.Maps.OwnSet
import Derived.StringKeys
/- Rings: queues by their names. -/
namespace Go.Proofs.Ytcidifmikcnkcaa
open Go.RowKit Go.Maps Go.WideShapes Go.WideMaps
set_option linter.unusedSimpArgs false
set_option linter.unusedVariables false

abbrev Nm := List UInt8
def ptrElem : Value → Option (DataW Unit × List MemPlace)
  | .pointer none => some (.lit (.int .i64 (-1)), [])
  | .pointer (some ⟨b, 0, none⟩) => some (.lit (.int .i64 (b : Int)), [])
  | _ => none
theorem ptrElem_inv {v : Value} {b : Nat} {ps : List MemPlace} (h : ptrElem v = some (.lit (.int .i64 (b : Int)), ps)) : v = .pointer (some ⟨b, 0, none⟩) := by
  unfold ptrElem at h
  split at h
  · simp at h
  · rename_i c
    simp only [Option.some.injEq, Prod.mk.injEq, DataW.lit.injEq, Lit.int.injEq, true_and] at h
    obtain ⟨h1, _⟩ := h
    obtain rfl : c = b := by omega
    rfl
  · cases h
theorem ptrElem_nil {v : Value} {ps : List MemPlace} (h : ptrElem v = some (.lit (.int .i64 (-1)), ps)) : v = .pointer none := by
  unfold ptrElem at h
  split at h
  · rfl
  · simp at h
  · cases h
theorem ptrElem_mk (b : Nat) : ptrElem (.pointer (some ⟨b, 0, none⟩)) = some (.lit (.int .i64 (b : Int)), []) := rfl
theorem lawR : Keyed Try.prog 9 := string_keyed Try.underlying9
theorem keyR (l : Nm) (h : l.length ≤ maxLen) : keyOf Try.prog 9 (.string (bstr l)) = some (.string l) := by
  have := keyOf_string_mk (P := Try.prog) Try.underlying9 (s := bstr l) h
  rw [this]
  rfl

inductive Lab where
  | root | map | que (n : Nm) | row (n : Nm)
def lk (qs : List (Nm × Qu)) (nm : Nm) : Option Qu := (qs.find? (fun e => decide (e.1 = nm))).map Prod.snd
structure RH (w : World) (base p mb : Nat) (most : Int) (qs : List (Nm × Qu)) (D : DataW Unit) (lab : Nat → Option Lab) (P : Nm → Prop) : Prop where
  own : Own base 60 1 w (some ⟨p, 0, none⟩) 2 2 [.int .i64 most, .map (some mb)]
  map : w.ownsMap Try.prog 9 ptrElem mb qs.length D
  mbb : base ≤ mb
  labp : lab p = some .root
  labm : lab mb = some .map
  size : Maps.size D = qs.length
  keys : ∀ nm, Maps.has D (.string nm) = (lk qs nm).isSome
  each : ∀ nm q, P nm → lk qs nm = some q → ∃ (b : Nat) (A : Option Addr) (n c f : Nat) (L : List Int), (∀ z, D.atKey (.string nm) z = .lit (.int .i64 (b : Int))) ∧ QIs w base b q A n c f L ∧ lab b = some (.que nm) ∧ (∀ a, A = some a → lab a.block = some (.row nm))
  named : ∀ nm q, lk qs nm = some q → 1 ≤ nm.length ∧ nm.length ≤ 40
  nodup : (qs.map Prod.fst).Nodup
  bound : 1 ≤ most ∧ most ≤ 65536
  labN : ∀ j, (lab j).isSome = true → j < w.heap.size
  ptr : ∀ nm q, lk qs nm = some q → ∃ b : Nat, ∀ z, D.atKey (.string nm) z = .lit (.int .i64 (b : Int))
theorem RH.weak {w : World} {base p mb : Nat} {most : Int} {qs : List (Nm × Qu)} {D : DataW Unit} {lab : Nat → Option Lab} {P P' : Nm → Prop} (h : RH w base p mb most qs D lab P) (hp : ∀ nm, P' nm → P nm) : RH w base p mb most qs D lab P' :=
  ⟨h.own, h.map, h.mbb, h.labp, h.labm, h.size, h.keys, fun nm q k => h.each nm q (hp nm k), h.named, h.nodup, h.bound, h.labN, h.ptr⟩
theorem RH.cell {w : World} {base p mb : Nat} {most : Int} {qs : List (Nm × Qu)} {D : DataW Unit} {lab : Nat → Option Lab} {P : Nm → Prop} (h : RH w base p mb most qs D lab P) :
    w.cell? ⟨p, 0, none⟩ = some (.int .i64 most) ∧ w.cell? ⟨p, 1, none⟩ = some (.map (some mb)) := by
  have k0 := World.ownsRow.cellAt h.own 0 (by omega)
  have k1 := World.ownsRow.cellAt h.own 1 (by omega)
  simp only [List.getElem?_cons_succ, List.getElem?_cons_zero] at k0 k1
  exact ⟨k0, k1⟩
theorem ownsMap_below {w w' : World} {Pg : Program} {k : TypeId} {R : Value → Option (DataW Unit × List MemPlace)} {b n : Nat} {D : DataW Unit} (h : w.ownsMap Pg k R b n D) (hb : Below w.heap.size w w') : w'.ownsMap Pg k R b n D :=
  h.kept (row := none) ⟨hb.os, hb.tape, hb.output, hb.size, fun i hi _ => hb.block i hi⟩ (by simp)
theorem RH.below {w w' : World} {base p mb : Nat} {most : Int} {qs : List (Nm × Qu)} {D : DataW Unit} {lab : Nat → Option Lab} {P : Nm → Prop} (h : RH w base p mb most qs D lab P) (hb : Below w.heap.size w w') : RH w' base p mb most qs D lab P :=
  ⟨h.own.below hb, ownsMap_below h.map hb, h.mbb, h.labp, h.labm, h.size, h.keys, fun nm q hp hq => by
    obtain ⟨b, A, n, c, f, L, h1, h2, h3⟩ := h.each nm q hp hq
    exact ⟨b, A, n, c, f, L, h1, h2.below hb, h3⟩, h.named, h.nodup, h.bound, fun j hj => Nat.lt_of_lt_of_le (h.labN j hj) hb.size, h.ptr⟩
theorem RH.lt {w : World} {base p mb : Nat} {most : Int} {qs : List (Nm × Qu)} {D : DataW Unit} {lab : Nat → Option Lab} {P : Nm → Prop} (h : RH w base p mb most qs D lab P) : base ≤ p ∧ p < w.heap.size ∧ mb < w.heap.size := by
  obtain ⟨g, h1, h2, h3⟩ := own_addr h.own (by omega)
  cases h1
  exact ⟨h2, h3, h.map.lt⟩
/-- a step upon one queue leaves the rest -/
theorem RH.step {w w' : World} {base p mb b : Nat} {most : Int} {qs : List (Nm × Qu)} {D : DataW Unit} {lab : Nat → Option Lab} {nm : Nm} {A : Option Addr} (h : RH w base p mb most qs D lab (· ≠ nm)) (hs : QStep w w' b A)
    (hb : lab b = some (.que nm)) (hA : ∀ a, A = some a → lab a.block = some (.row nm)) : RH w' base p mb most qs D lab (· ≠ nm) := by
  have hlt := h.lt
  have far : ∀ k, k < w.heap.size → (∀ l, lab k = some l → l ≠ .que nm ∧ l ≠ .row nm) → (lab k).isSome = true → w'.heap[k]? = w.heap[k]? := by
    intro k hk hl hsome
    obtain ⟨l, hl2⟩ := Option.isSome_iff_exists.1 hsome
    have h1 := hl l hl2
    refine hs.block k hk (fun e => ?_) (fun a ha e => ?_)
    · rw [e, hb] at hl2; cases hl2; exact h1.1 rfl
    · rw [e, hA a ha] at hl2; cases hl2; exact h1.2 rfl
  have keep : ∀ (e : TypeId) (n c : Nat) (A' : Option Addr) (cs : List Value), Own base e 1 w A' n c cs → (∀ a, A' = some a → w'.heap[a.block]? = w.heap[a.block]?) → Own base e 1 w' A' n c cs := by
    intro e n c A' cs ho hk
    refine ⟨ho.1, ?_⟩
    rcases ho.2 with h0 | ⟨g, cap, cur, h0, h1, h2, h3⟩
    · exact .inl h0
    · refine .inr ⟨g, cap, cur, h0, h1, ?_, h3⟩
      simp only [Value.slice.injEq] at h0
      exact (hk _ h0.1).trans h2
  refine ⟨keep _ _ _ _ _ h.own (fun a ha => by cases ha; exact far p hlt.2.1 (fun l hl => by rw [h.labp] at hl; cases hl; exact ⟨by simp, by simp⟩) (by rw [h.labp]; rfl)), ?_, h.mbb, h.labp, h.labm, h.size, h.keys, ?_, h.named, h.nodup, h.bound, fun j hj => Nat.lt_of_lt_of_le (h.labN j hj) hs.size, h.ptr⟩
  · obtain ⟨es, cl, h1, h2⟩ := h.map
    exact ⟨es, cl, (far mb hlt.2.2 (fun l hl => by rw [h.labm] at hl; cases hl; exact ⟨by simp, by simp⟩) (by rw [h.labm]; rfl)).trans h1, h2⟩
  · intro nm' q hn hq
    obtain ⟨b', A', n, c, f, L, h1, h2, h3, h4⟩ := h.each nm' q hn hq
    refine ⟨b', A', n, c, f, L, h1, ⟨keep _ _ _ _ _ h2.own (fun a ha => ?_), keep _ _ _ _ _ h2.row (fun a ha => ?_), h2.ne, h2.most, h2.len, h2.from_, h2.ring⟩, h3, h4⟩
    · cases ha
      exact far b' h2.blt.2 (fun l hl => by rw [h3] at hl; cases hl; exact ⟨fun e => hn (by cases e; rfl), by simp⟩) (by rw [h3]; rfl)
    · refine far a.block ?_ (fun l hl => by rw [h4 a ha] at hl; cases hl; exact ⟨by simp, fun e => hn (by cases e; rfl)⟩) (by rw [h4 a ha]; rfl)
      exact (World.ownsRow.lt h2.row a.block (by simp [Value.ownBlock, ha])).2
/-- a new block gets a name -/
theorem RH.label {w : World} {base p mb k : Nat} {most : Int} {qs : List (Nm × Qu)} {D : DataW Unit} {lab : Nat → Option Lab} {nm : Nm} {N : Nat} (h : RH w base p mb most qs D lab (· ≠ nm)) (hN : ∀ j, (lab j).isSome = true → j < N) (hk : N ≤ k) (hks : k < w.heap.size) (l : Lab) :
    RH w base p mb most qs D (fun j => if j = k then some l else lab j) (· ≠ nm) := by
  have key : ∀ j m, lab j = some m → (if j = k then some l else lab j) = some m := fun j m hj => by
    have := hN j (by rw [hj]; rfl)
    rw [if_neg (by omega)]; exact hj
  refine ⟨h.own, h.map, h.mbb, key _ _ h.labp, key _ _ h.labm, h.size, h.keys, fun nm' q hn hq => ?_, h.named, h.nodup, h.bound, fun j hj => by
    by_cases e : j = k
    · omega
    · exact h.labN j (by simpa [e] using hj), h.ptr⟩
  obtain ⟨b, A, n, c, f, L, h1, h2, h3, h4⟩ := h.each nm' q hn hq
  exact ⟨b, A, n, c, f, L, h1, h2, key _ _ h3, fun a ha => key _ _ (h4 a ha)⟩
/-- but for the blocks that a label names, and new ones, nothing turns -/
structure Chg (lab lab' : Nat → Option Lab) (w w' : World) : Prop where
  os : w'.os = w.os
  tape : w'.tape = w.tape
  output : w'.output = w.output
  size : w.heap.size ≤ w'.heap.size
  block : ∀ k, k < w.heap.size → lab k = none → w'.heap[k]? = w.heap[k]?
  new : ∀ k, (lab' k).isSome = true → (lab k).isSome = true ∨ w.heap.size ≤ k
theorem Chg.none {lab lab' : Nat → Option Lab} {w w' : World} (h : Chg lab lab' w w') {k : Nat} (hk : k < w.heap.size) (hl : lab k = none) : lab' k = none := by
  cases h2 : lab' k with
  | none => rfl
  | some l =>
    rcases h.new k (by rw [h2]; rfl) with h3 | h3
    · rw [hl] at h3; cases h3
    · omega
theorem Chg.trans {lab lab1 lab2 : Nat → Option Lab} {w w1 w2 : World} (h : Chg lab lab1 w w1) (k : Chg lab1 lab2 w1 w2) : Chg lab lab2 w w2 :=
  ⟨k.os.trans h.os, k.tape.trans h.tape, k.output.trans h.output, Nat.le_trans h.size k.size, fun j hj hl => (k.block j (Nat.lt_of_lt_of_le hj h.size) (h.none hj hl)).trans (h.block j hj hl), fun j hj => by
    rcases k.new j hj with h1 | h1
    · exact h.new j h1
    · exact .inr (Nat.le_trans h.size h1)⟩
theorem Chg.below {lab : Nat → Option Lab} {w w' : World} (h : Below w.heap.size w w') : Chg lab lab w w' := ⟨h.os, h.tape, h.output, h.size, fun k hk _ => h.block k hk, fun _ hj => .inl hj⟩
theorem Chg.grown {lab : Nat → Option Lab} {w w' : World} {g : Nat} (h : w.grownBy w' (some g)) (hg : (lab g).isSome = true) : Chg lab lab w w' := ⟨h.os, h.tape, h.output, h.size, fun k hk hl => h.block k hk (fun e => by cases e; rw [hl] at hg; cases hg), fun _ hj => .inl hj⟩
theorem Chg.q {lab : Nat → Option Lab} {w w' : World} {b : Nat} {A : Option Addr} (h : QStep w w' b A) (hb : (lab b).isSome = true) (hA : ∀ a, A = some a → (lab a.block).isSome = true) : Chg lab lab w w' :=
  ⟨h.os, h.tape, h.output, h.size, fun k hk hl => h.block k hk (fun e => by rw [← e, hl] at hb; cases hb) (fun a ha e => by have := hA a ha; rw [← e, hl] at this; cases this), fun _ hj => .inl hj⟩
theorem own_same {w w' : World} {base n c : Nat} {e : TypeId} {size : Nat} {A : Option Addr} {cs : List Value} (ho : Own base e size w A n c cs) (hk : ∀ a, A = some a → w'.heap[a.block]? = w.heap[a.block]?) : Own base e size w' A n c cs := by
  refine ⟨ho.1, ?_⟩
  rcases ho.2 with h0 | ⟨g, cap, cur, h0, h1, h2, h3⟩
  · exact .inl h0
  · refine .inr ⟨g, cap, cur, h0, h1, ?_, h3⟩
    simp only [Value.slice.injEq] at h0
    exact (hk _ h0.1).trans h2
theorem RH.kept {w w' : World} {base p mb : Nat} {most : Int} {qs : List (Nm × Qu)} {D : DataW Unit} {lab : Nat → Option Lab} {P : Nm → Prop} (h : RH w base p mb most qs D lab P) (hs : w.heap.size ≤ w'.heap.size) (hk : ∀ k, (lab k).isSome = true → w'.heap[k]? = w.heap[k]?) : RH w' base p mb most qs D lab P := by
  refine ⟨own_same h.own (fun a ha => by cases ha; exact hk p (by rw [h.labp]; rfl)), ?_, h.mbb, h.labp, h.labm, h.size, h.keys, ?_, h.named, h.nodup, h.bound, fun j hj => Nat.lt_of_lt_of_le (h.labN j hj) hs, h.ptr⟩
  · obtain ⟨es, cl, h1, h2⟩ := h.map
    exact ⟨es, cl, (hk mb (by rw [h.labm]; rfl)).trans h1, h2⟩
  · intro nm' q hn hq
    obtain ⟨b', A', n, c, f, L, h1, h2, h3, h4⟩ := h.each nm' q hn hq
    exact ⟨b', A', n, c, f, L, h1, ⟨own_same h2.own (fun a ha => by cases ha; exact hk b' (by rw [h3]; rfl)), own_same h2.row (fun a ha => hk _ (by rw [h4 a ha]; rfl)), h2.ne, h2.most, h2.len, h2.from_, h2.ring⟩, h3, h4⟩
end Go.Proofs.Ytcidifmikcnkcaa
