import Derived.Test.YtemegkapmgcffaaGreatR6B
import Derived.Test.YtemegkapmgcffaaGreatRkM
import Derived.Test.YtemegkapmgcffaaGreatMRc
/- The program's disk and the document's beside each other, with slices and blocks beside both. -/
namespace Go.Proofs.YtemegkapmgcffaaGreat
open Go.RowKit
set_option linter.unusedSimpArgs false
set_option linter.unusedVariables false

theorem R2.cg {F F' : Nat → Prop} {w w' : World} {A : Option Addr} {n c : Nat} {es : List FE} (h : R2 (fun q => ¬ F q) w A n c es) (hc : Cg F F' w w') : R2 (fun q => ¬ F' q) w' A n c es := by
  have key : ∀ q, q < w.heap.size → ¬ F q → ¬ F' q := fun q hq hf hf' => by
    rcases hc.new q hf' with h1 | h1
    · exact hf h1
    · omega
  refine ⟨?_, fun hne a ha => ⟨Nat.lt_of_lt_of_le (h.lies hne a ha).1 hc.size, key _ (h.lies hne a ha).1 (h.lies hne a ha).2⟩, fun e he => ⟨?_, fun hne a ha => ⟨Nat.lt_of_lt_of_le ((h.ok e he).2 hne a ha).1 hc.size, key _ ((h.ok e he).2 hne a ha).1 ((h.ok e he).2 hne a ha).2⟩⟩⟩
  · by_cases h0 : es = []
    · subst h0
      exact ⟨fun j u hj => by simp [flatFE] at hj, h.sl.len, h.sl.le, h.sl.none⟩
    · exact sl_same h.sl (fun a ha => hc.block _ (h.lies h0 a ha).1 (h.lies h0 a ha).2)
  · by_cases h0 : bytesV e.f.b = []
    · have h1 := (h.ok e he).1
      rw [h0] at h1 ⊢
      exact ⟨fun j u hj => by simp at hj, h1.len, h1.le, h1.none⟩
    · exact sl_same (h.ok e he).1 (fun a ha => hc.block _ ((h.ok e he).2 h0 a ha).1 ((h.ok e he).2 h0 a ha).2)
structure T2 (W w : World) (p B : Nat) (Dp Dw : Dk) (F : Nat → Prop) (A : Option Addr) (n c : Nat) (es : List FE) (L : List Rsl) (K : List (Nat × Obj)) : Prop where
  dk : DkIs w W.heap.size p Dp F
  bel : Below W.heap.size W w
  r2 : R2 (fun q => ¬ F q) w A n c es
  eq : es.map FE.f = Dw.fs
  box : Own W.heap.size 30 1 w (some ⟨B, 0, none⟩) 4 4 [.int .i64 Dw.room, .slice A n c, .int .i64 Dw.fuse, .bool Dw.dark]
  nB : ¬ F B
  lb : ∀ ρ, ρ ∈ L → Rws F w ρ.A ρ.n ρ.c (bytesV ρ.x)
  kb : ∀ κ, κ ∈ K → w.heap[κ.1]? = some κ.2 ∧ ¬ F κ.1 ∧ κ.1 ≠ B ∧ W.heap.size ≤ κ.1
section
variable {W w w' : World} {p B : Nat} {Dp Dw : Dk} {F F' : Nat → Prop} {A : Option Addr} {n c : Nat} {es : List FE} {L L' : List Rsl} {K K' : List (Nat × Obj)}
theorem T2.step {D2 : Dk} (h : T2 W w p B Dp Dw F A n c es L K) (hd : DkIs w' W.heap.size p D2 F') (hc : Cg F F' w w') : T2 W w' p B D2 Dw F' A n c es L K := by
  have hB : B < w.heap.size := (own_ltR h.box _ rfl).2
  have key : ∀ q, q < w.heap.size → ¬ F q → ¬ F' q := fun q hq hf hf' => by
    rcases hc.new q hf' with h1 | h1
    · exact hf h1
    · omega
  exact ⟨hd, h.bel.trans (hc.bel (fun q hq => (h.dk.bound q hq).1) h.bel.size), h.r2.cg hc, h.eq, own_same h.box (fun a ha => hc.block _ (own_ltR h.box a ha).2 (by cases ha; exact h.nB)), key _ hB h.nB, fun ρ hr => (h.lb ρ hr).step hc, fun κ hk => by
    obtain ⟨g1, g2, g3, g4⟩ := h.kb κ hk
    exact ⟨(hc.block _ (heap_lt g1) g2).trans g1, key _ (heap_lt g1) g2, g3, g4⟩⟩
theorem T2.below (h : T2 W w p B Dp Dw F A n c es L K) (hb : Below w.heap.size w w') : T2 W w' p B Dp Dw F A n c es L K := h.step (h.dk.below hb) (Cg.below hb)
theorem T2.sub (h : T2 W w p B Dp Dw F A n c es L K) (hs : ∀ ρ, ρ ∈ L' → ρ ∈ L) (hk : ∀ κ, κ ∈ K' → κ ∈ K) : T2 W w p B Dp Dw F A n c es L' K' := ⟨h.dk, h.bel, h.r2, h.eq, h.box, h.nB, fun ρ hr => h.lb ρ (hs ρ hr), fun κ hq => h.kb κ (hk κ hq)⟩
theorem T2.alloc (h : T2 W w p B Dp Dw F A n c es L K) (o : Obj) : T2 W (w.alloc o) p B Dp Dw F A n c es L ((w.heap.size, o) :: K) := by
  have h2 := h.below (below_alloc1 w o)
  have hB : B < w.heap.size := (own_ltR h.box _ rfl).2
  exact ⟨h2.dk, h2.bel, h2.r2, h2.eq, h2.box, h2.nB, h2.lb, fun κ hk => by
    rcases List.mem_cons.1 hk with h5 | h5
    · subst h5
      exact ⟨heap_alloc_new w o, fun hf => by have := (h.dk.bound _ hf).2; simp only at this; omega, by simp only; omega, h.bel.size⟩
    · exact h2.kb κ h5⟩
theorem T2.add (h : T2 W w p B Dp Dw F A n c es L K) {ρ : Rsl} (hr : Rws F w ρ.A ρ.n ρ.c (bytesV ρ.x)) : T2 W w p B Dp Dw F A n c es (ρ :: L) K :=
  ⟨h.dk, h.bel, h.r2, h.eq, h.box, h.nB, fun σ hs => by
    rcases List.mem_cons.1 hs with h5 | h5
    · subst h5; exact hr
    · exact h.lb σ h5, h.kb⟩
/-- a slice that was there before the disks were -/
theorem T2.old (h : T2 W w p B Dp Dw F A n c es L K) {A3 : Option Addr} {n3 c3 : Nat} {x : List UInt8} (hs : Sl W 1 A3 n3 c3 (bytesV x)) : Rws F w A3 n3 c3 (bytesV x) := by
  refine ⟨hs.below h.bel, fun hne a ha => ?_⟩
  obtain ⟨v, t, hv⟩ := List.exists_cons_of_ne_nil hne
  obtain ⟨ad, h6, h7⟩ := hs.cells 0 v (by rw [hv]; rfl)
  rw [ha] at h6
  cases h6
  have h8 := World.block_lt_of_cell? _ _ h7
  rw [add_block] at h8
  exact ⟨Nat.lt_of_lt_of_le h8 h.bel.size, fun hf => by have := (h.dk.bound _ hf).1; omega⟩
theorem T2.sl (h : T2 W w p B Dp Dw F A n c es L K) {ρ : Rsl} (hr : ρ ∈ L) : Sl w 1 ρ.A ρ.n ρ.c (bytesV ρ.x) := (h.lb ρ hr).1
theorem T2.held (h : T2 W w p B Dp Dw F A n c es L K) {q : Nat} {o : Obj} (hr : (q, o) ∈ K) : w.heap[q]? = some o := (h.kb _ hr).1
theorem T2.cellK {q j : Nat} {vs : Array Value} {t : TypeId} {v : Value} (h : T2 W w p B Dp Dw F A n c es L K) (hm : (q, Obj.cells vs t) ∈ K) (hv : vs[j]? = some v) : w.cell? ⟨q, j, none⟩ = some v := row_cell (h.held hm) hv
theorem rws_grown {q : Nat} {ρ : Rsl} (h : Rws F w ρ.A ρ.n ρ.c (bytesV ρ.x)) (hs : Sl w' 1 ρ.A ρ.n ρ.c (bytesV ρ.x)) (hz : w.heap.size ≤ w'.heap.size) : Rws F w' ρ.A ρ.n ρ.c (bytesV ρ.x) :=
  ⟨hs, fun hne a ha => ⟨Nat.lt_of_lt_of_le (h.2 hne a ha).1 hz, (h.2 hne a ha).2⟩⟩
/-- the document's disk is stored into its box -/
theorem T2.put (h : T2 W w p B Dp Dw F A n c es L K) {D2 : Dk} {A2 : Option Addr} {n2 c2 : Nat} {es2 : List FE} (r2 : R2 (fun q => ¬ F q) w A2 n2 c2 es2) (eq : es2.map FE.f = D2.fs) :
    T2 W (set4 w B (.int .i64 D2.room) (.slice A2 n2 c2) (.int .i64 D2.fuse) (.bool D2.dark)) p B Dp D2 F A2 n2 c2 es2 L K := by
  have st := stored4R h.box (.int .i64 D2.room) (.slice A2 n2 c2) (.int .i64 D2.fuse) (.bool D2.dark)
  have hB := own_ltR h.box _ rfl
  exact ⟨dk_awayR h.dk (Cg.grown (F := fun q => q = B) st.2 rfl) (fun q hq e => h.nB (e ▸ hq)), h.bel.grown st.2 h.bel.size (fun q hq => by cases hq; exact hB.1), R2.keptB h.box (nb4 _ _ _ _ _ _) (ns4 _ _ _ _ _ _) r2 st.2, eq, st.1, h.nB,
    fun ρ hr => rws_grown (q := B) (h.lb ρ hr) (sl_box h.box (nb4 _ _ _ _ _ _) st.2 (h.lb ρ hr).1) st.2.size,
    fun κ hk => by
      obtain ⟨g1, g2, g3, g4⟩ := h.kb κ hk
      exact ⟨(st.2.block _ (heap_lt g1) (fun e => g3 (Option.some.inj e))).trans g1, g2, g3, g4⟩⟩
/-- a root is stored into a block beside the disks -/
theorem T2.rt {q : Nat} {s b s2 b2 : Int} {A1 A2 : Option Addr} {n1 c1 n2 c2 : Nat} (h : T2 W w p B Dp Dw F A n c es L ((q, rtO s b A1 n1 c1) :: K)) (hK : ∀ κ, κ ∈ K → κ.1 ≠ q) :
    T2 W (set3 w q (.int .i64 s2) (.int .i64 b2) (.slice A2 n2 c2)) p B Dp Dw F A n c es L ((q, rtO s2 b2 A2 n2 c2) :: K) ∧ Own W.heap.size 36 1 w (some ⟨q, 0, none⟩) 3 3 [.int .i64 s, .int .i64 b, .slice A1 n1 c1] := by
  obtain ⟨g1, g2, g3, g4⟩ := h.kb _ (List.mem_cons_self ..)
  have ho := rtO_own g1 g4
  have st := stored3R ho (.int .i64 s2) (.int .i64 b2) (.slice A2 n2 c2)
  refine ⟨⟨dk_awayR h.dk (Cg.grown (F := fun k => k = q) st.2 rfl) (fun k hk e => g2 (e ▸ hk)), h.bel.grown st.2 h.bel.size (fun k hk => by cases hk; exact g4), R2.keptB ho (nb3 _ _ _ _ _) (ns3 _ _ _ _ _) h.r2 st.2, h.eq, h.box.apart st.2 (fun e => g3 e.symm), h.nB,
    fun ρ hr => rws_grown (q := q) (h.lb ρ hr) (sl_box ho (nb3 _ _ _ _ _) st.2 (h.lb ρ hr).1) st.2.size, fun κ hk => ?_⟩, ho⟩
  rcases List.mem_cons.1 hk with h5 | h5
  · subst h5
    exact ⟨held_of_own st.1, g2, g3, g4⟩
  · obtain ⟨k1, k2, k3, k4⟩ := h.kb κ (List.mem_cons_of_mem _ h5)
    exact ⟨(st.2.block _ (heap_lt k1) (fun e => hK κ h5 (Option.some.inj e))).trans k1, k2, k3, k4⟩
theorem T2.cb (h : T2 W w p B Dp Dw F A n c es L K) : w.cell? ⟨B, 0, none⟩ = some (.int .i64 Dw.room) ∧ w.cell? ⟨B, 1, none⟩ = some (.slice A n c) ∧ w.cell? ⟨B, 2, none⟩ = some (.int .i64 Dw.fuse) ∧ w.cell? ⟨B, 3, none⟩ = some (.bool Dw.dark) := cells4 h.box
theorem T2.gok (h : T2 W w p B Dp Dw F A n c es L K) : ∀ q, w.heap.size ≤ q → ¬ F q := fun q hq hf => by have := (h.dk.bound q hf).2; omega
end
end Go.Proofs.YtemegkapmgcffaaGreat
