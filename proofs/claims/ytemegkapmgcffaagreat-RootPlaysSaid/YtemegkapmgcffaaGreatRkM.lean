import Derived.Test.YtemegkapmgcffaaGreatRkL
/- Roots: structs of the caller's own, beside the disk, that are written. -/
namespace Go.Proofs.YtemegkapmgcffaaGreat
open Go.RowKit
set_option linter.unusedSimpArgs false
set_option linter.unusedVariables false

theorem row_cell {w : World} {q j : Nat} {vs : Array Value} {t : TypeId} {v : Value} (h : w.heap[q]? = some (.cells vs t)) (hv : vs[j]? = some v) : w.cell? ⟨q, j, none⟩ = some v := by
  rw [cell_of_row w q j vs t (0, 0) h]
  exact hv
/-- a root in a block of its own -/
def rtO (s b : Int) (A : Option Addr) (n c : Nat) : Obj := .cells #[.int .i64 s, .int .i64 b, .slice A n c] 36
theorem own_of_held {w : World} {base q : Nat} {t : TypeId} {vs : Array Value} {n : Nat} (h : w.heap[q]? = some (.cells vs t)) (hb : base ≤ q) (hn : vs.size = n) (hm : n ≤ maxLen) : Own base t 1 w (some ⟨q, 0, none⟩) n n vs.toList :=
  ⟨by simpa using hn, .inr ⟨q, n, vs, rfl, hb, h, Nat.le_refl _, hm, by simpa using hn, by rw [List.take_of_length_le (by rw [Array.length_toList]; omega)]⟩⟩
theorem held_of_own {w : World} {base q : Nat} {t : TypeId} {n : Nat} {cs : List Value} (h : Own base t 1 w (some ⟨q, 0, none⟩) n n cs) : w.heap[q]? = some (.cells cs.toArray t) := by
  obtain ⟨h1, h2⟩ := h
  rcases h2 with ⟨h3, _⟩ | ⟨g, cap, cur, h3, _, h4, _, _, h5, h6⟩
  · cases h3
  · simp only [Value.slice.injEq, Option.some.injEq, Addr.mk.injEq, and_true, true_and] at h3
    obtain ⟨rfl, rfl⟩ := h3
    rw [h4]
    have h7 : cur.toList = cs := by
      rw [← h6, List.take_of_length_le (by rw [Array.length_toList]; omega)]
    rw [← h7]
theorem rtO_own {w : World} {base q : Nat} {s b : Int} {A : Option Addr} {n c : Nat} (h : w.heap[q]? = some (rtO s b A n c)) (hb : base ≤ q) : Own base 36 1 w (some ⟨q, 0, none⟩) 3 3 [.int .i64 s, .int .i64 b, .slice A n c] :=
  own_of_held h hb rfl (by unfold maxLen; omega)
/-- a row of bytes lies in no block of a root -/
theorem row_apart {w : World} {q : Nat} {s b : Int} {B : Option Addr} {k d : Nat} {A : Option Addr} {n c : Nat} {x : List UInt8} (h : w.heap[q]? = some (rtO s b B k d)) (hs : Sl w 1 A n c (bytesV x)) (hne : bytesV x ≠ []) (a : Addr) (ha : A = some a) : a.block ≠ q := by
  intro he
  obtain ⟨v, t, hv⟩ := List.exists_cons_of_ne_nil hne
  obtain ⟨ad, h6, h7⟩ := hs.cells 0 v (by rw [hv]; rfl)
  rw [ha] at h6
  cases h6
  have hx : ∃ y : UInt8, v = byteV y := by
    unfold bytesV at hv
    cases x with
    | nil => cases hv
    | cons y r => simp only [List.map_cons, List.cons.injEq] at hv; exact ⟨y, hv.1.symm⟩
  obtain ⟨y, rfl⟩ := hx
  obtain ⟨bk, off, spot⟩ := a
  simp only at he
  subst he
  simp [World.cell?, Addr.add, h, rtO] at h7
  have h8 := List.mem_of_getElem? h7.2
  simp [byteV] at h8
section
variable {W w w' : World} {p q : Nat} {D : Dk} {L : List Rsl} {K : List (Nat × Obj)}
theorem DskM.cellK {j : Nat} {vs : Array Value} {t : TypeId} {v : Value} (h : DskM W w p D L K) (hm : (q, Obj.cells vs t) ∈ K) (hv : vs[j]? = some v) : w.cell? ⟨q, j, none⟩ = some v := row_cell (h.held hm) hv
/-- a root of the caller's own is written -/
theorem DskM.store {s b s2 b2 : Int} {A A2 : Option Addr} {n c n2 c2 : Nat} (h : DskM W w p D L ((q, rtO s b A n c) :: K)) (hq : W.heap.size ≤ q) (hK : ∀ κ, κ ∈ K → κ.1 ≠ q)
    (hg : w.grownBy w' (some q)) (ho : Own W.heap.size 36 1 w' (some ⟨q, 0, none⟩) 3 3 [.int .i64 s2, .int .i64 b2, .slice A2 n2 c2]) : DskM W w' p D L ((q, rtO s2 b2 A2 n2 c2) :: K) := by
  have hh := h.held (List.mem_cons_self ..)
  obtain ⟨F, h1, h2, h3, h4⟩ := h
  have hnF := (h4 _ (List.mem_cons_self ..)).2
  simp only at hnF
  have hcg : Cg (fun k => k = q) (fun k => k = q) w w' := Cg.grown (F := fun k => k = q) hg rfl
  refine ⟨F, dk_new h1 hg hnF, h2.grown hg h2.size (fun k hk => by cases hk; exact hq), fun ρ hr => ?_, fun κ hk => ?_⟩
  · have hr3 := h3 ρ hr
    by_cases h0 : bytesV ρ.x = []
    · have hs := hr3.1
      rw [h0] at hs ⊢
      exact ⟨⟨fun j u hj => by simp at hj, hs.len, hs.le, hs.none⟩, fun h => absurd rfl h⟩
    · have hne := row_apart hh hr3.1 h0
      exact ⟨sl_same hr3.1 (fun a ha => hcg.block _ (hr3.2 h0 a ha).1 (hne a ha)), fun _ a ha => ⟨Nat.lt_of_lt_of_le (hr3.2 h0 a ha).1 hcg.size, (hr3.2 h0 a ha).2⟩⟩
  · rcases List.mem_cons.1 hk with h5 | h5
    · subst h5
      exact ⟨held_of_own ho, hnF⟩
    · have g := h4 κ (List.mem_cons_of_mem _ h5)
      exact ⟨(hcg.block _ (heap_lt g.1) (hK κ h5)).trans g.1, g.2⟩
end
/-- blocks at B or above may change -/
def Rq (B : Nat) (w w' : World) : Prop := B ≤ w.heap.size → Below B w w'
theorem Rq.below {B : Nat} {w w' : World} (h : Below w.heap.size w w') : Rq B w w' := fun hB => h.mono hB
theorem Rq.trans {B : Nat} {w w1 w2 : World} (h : Rq B w w1) (k : Rq B w1 w2) : Rq B w w2 := fun hB => (h hB).trans (k (Nat.le_trans hB (h hB).size))
theorem Rq.bel {w w' : World} (h : Rq w.heap.size w w') : Below w.heap.size w w' := h (Nat.le_refl _)
def JRt (B : Nat) (s b : Int) (A : Option Addr) (n c : Nat) : Value → World → Prop := fun v w => ∃ g, v = .pointer (some ⟨g, 0, none⟩) ∧ B ≤ g ∧ Own B 36 1 w (some ⟨g, 0, none⟩) 3 3 [.int .i64 s, .int .i64 b, .slice A n c]
end Go.Proofs.YtemegkapmgcffaaGreat
