import Derived.Test.YtemegkapmgcffaaGreatR2A
/- The document's disk, by value: text, number. -/
namespace Go.Proofs.YtemegkapmgcffaaGreat
open Go.RowKit
set_option linter.unusedSimpArgs false
set_option linter.unusedVariables false

theorem bstr_app (l b : List UInt8) : bstr l ++ bstr b = bstr (l ++ b) := by
  apply ByteArray.ext
  simp [bstr]
set_option maxRecDepth 100000 in
set_option maxHeartbeats 4000000 in
theorem r2text_any (A B : Option Addr) (n c m d : Nat) (l b : List UInt8) (w : World) (hs : Sl w 1 A n c (bytesV l)) (ht : Sl w 1 B m d (bytesV b)) (hn : n ≤ 400000) (hm : m ≤ 400000) :
    Calls Tryz.prog 45 #[.slice A n c, .slice B m d] w fun x w' => ∃ A' c', x = .returned (.slice A' (l ++ b).length c') ∧ Sl w' 1 A' (l ++ b).length c' (bytesV (l ++ b)) ∧ (∀ a, A' = some a → w.heap.size ≤ a.block ∧ a.block < w'.heap.size) ∧ Below w.heap.size w w' := by
  have hl1 := hs.blen
  have hl2 := ht.blen
  have h1 := run_str hs
  have h2 := run_str ht
  have hcs := conv_slR w (l ++ b) (by simp only [List.length_append]; omega)
  obtain ⟨wc, hwc⟩ : ∃ wc, wc = Lib.bytesWorld w 5 (bstr (l ++ b)) := ⟨_, rfl⟩
  have hsz : w.heap.size < wc.heap.size := by rw [hwc, Lib.bytesWorld_size]; omega
  rw [← hwc] at hcs
  have HC := Lib.hid hcs
  have hz : (bstr (l ++ b)).size = (l ++ b).length := rfl
  have hap := bstr_app l b
  have hsum : ¬ 9223372036854775807 < (bstr l).size + (bstr b).size := by
    rw [show (bstr l).size = l.length from rfl, show (bstr b).size = b.length from rfl]
    omega
  clear hcs
  go_enter Tryz.func45, Tryz.ntmps45
  go_wp2_with fail
  rw [Lib.run_convert_string_bytes (P := Tryz.prog) _ 9 34 5 _ Tryz.underlying9 Tryz.underlying34 Tryz.underlying5]
  simp only [Result.andThen, Oper.upon]
  rw [← hwc, hz]
  clear h1 h2 hap hwc hsum
  go_wp2_with fail
  go_ret
  refine ⟨some ⟨w.heap.size, 0, none⟩, grownCap w (l ++ b).length 0 5, by rw [List.length_append, hl1, hl2]; rfl, HC.out.1, fun a ha => by cases ha; exact ⟨Nat.le_refl _, hsz⟩, HC.out.2⟩
theorem infoF2 : (Tryz.prog.info? 82).map (fun i => (i.zero, i.size, i.bytes)) = some (some (.agg #[.string ⟨#[]⟩, .slice none 0 0, .int .i64 0]), 3, 48) := by kernel_rfl
theorem sl_lit3F (w : World) (cs : List Value) (t : TypeId) (n : Nat) (h : cs.length = n * 3) : Sl (w.alloc (.cells cs.toArray t)) 3 (some ⟨w.heap.size, 0, none⟩) n n cs := by
  refine ⟨fun j u hj => ⟨_, rfl, ?_⟩, h, Nat.le_refl _, fun h => by cases h⟩
  rw [add_plain, cell_of_row _ w.heap.size j cs.toArray t (0, 0) (heap_alloc_new w _)]
  simpa using hj
/-- rows that grow, in memory of the call's own -/
structure Rw3 (B0 : Nat) (w : World) (A : Option Addr) (n c : Nat) (xs : List FE) : Prop where
  app : App B0 82 3 w A n c (flatFE xs)
  none : xs = [] → A = none
  lies : ∀ a, A = some a → B0 ≤ a.block ∧ a.block < w.heap.size
def Ap2 (A B : Option Addr) : Prop := ∀ a b, A = some a → B = some b → a.block ≠ b.block
theorem Rw3.nil (B0 : Nat) (w : World) : Rw3 B0 w Option.none 0 0 [] := ⟨App.nil _ _ _ _, fun _ => rfl, fun a ha => by cases ha⟩
theorem Rw3.below {B0 : Nat} {w w' : World} {A : Option Addr} {n c : Nat} {xs : List FE} (h : Rw3 B0 w A n c xs) (hb : Below w.heap.size w w') : Rw3 B0 w' A n c xs :=
  ⟨h.app.below hb, h.none, fun a ha => ⟨(h.lies a ha).1, Nat.lt_of_lt_of_le (h.lies a ha).2 hb.size⟩⟩
theorem flat_ne {xs : List FE} (h : xs ≠ []) : flatFE xs ≠ [] := by
  cases xs with
  | nil => exact absurd rfl h
  | cons x r => simp [flatFE, feC]
theorem Rw3.held {B0 : Nat} {w : World} {A : Option Addr} {n c : Nat} {xs : List FE} (h : App B0 82 3 w A n c (flatFE xs)) (hne : xs ≠ []) : ∀ a, A = some a → a.block < w.heap.size := fun a ha => by
  obtain ⟨v, t, hv⟩ := List.exists_cons_of_ne_nil (flat_ne hne)
  obtain ⟨ad, h6, h7⟩ := h.sl.cells 0 v (by rw [hv]; rfl)
  rw [ha] at h6
  cases h6
  have h8 := World.block_lt_of_cell? _ _ h7
  rwa [add_block] at h8
theorem Rw3.grow {B0 : Nat} {w w' : World} {A A' : Option Addr} {n c m d : Nat} {xs ys : List FE} (h : Rw3 B0 w A n c xs) (hat : AppTo B0 82 3 w w' A A' m d (flatFE ys)) (hne : ys ≠ []) (hB : B0 ≤ w.heap.size) : Rw3 B0 w' A' m d ys :=
  ⟨hat.app, fun e => absurd e hne, fun a ha => ⟨by
    rcases hat.lies a ha with ⟨a0, k1, k2⟩ | k1
    · rw [← k2]; exact (h.lies a0 k1).1
    · omega, Rw3.held hat.app hne a ha⟩⟩
theorem Rw3.other {B0 : Nat} {w w' : World} {A A' H : Option Addr} {n c m d k e : Nat} {xs ys zs : List FE} (h : Rw3 B0 w A n c xs) (ho : Rw3 B0 w H k e zs) (hap : Ap2 A H) (hat : AppTo B0 82 3 w w' A A' m d (flatFE ys)) : Rw3 B0 w' H k e zs ∧ Ap2 A' H := by
  have key : ∀ a, H = some a → w'.heap[a.block]? = w.heap[a.block]? := fun a ha => by
    refine hat.grown.block _ (ho.lies a ha).2 (fun e => ?_)
    unfold rowOf at e
    cases A with
    | none => simp at e
    | some b =>
      simp at e
      exact hap b a rfl ha (by omega)
  refine ⟨⟨ho.app.elim (fun h => .inl (own_same h key)) (fun h => .inr ⟨sl_same h.1 key, h.2⟩), ho.none, fun a ha => ⟨(ho.lies a ha).1, Nat.lt_of_lt_of_le (ho.lies a ha).2 hat.grown.size⟩⟩, fun a b ha hb => ?_⟩
  rcases hat.lies a ha with ⟨a0, k1, k2⟩ | k1
  · rw [← k2]; exact hap a0 b k1 hb
  · have := (ho.lies b hb).2
    omega
theorem Rw3.grownB {B0 : Nat} {w w' : World} {A A' : Option Addr} {n c m d : Nat} {xs ys : List FE} (h : Rw3 B0 w A n c xs) (hat : AppTo B0 82 3 w w' A A' m d (flatFE ys)) (hB : B0 ≤ w.heap.size) : Below B0 w w' :=
  (Below.refl B0 w).grown hat.grown hB (fun k hk => rowOf_ge hk)
end Go.Proofs.YtemegkapmgcffaaGreat
