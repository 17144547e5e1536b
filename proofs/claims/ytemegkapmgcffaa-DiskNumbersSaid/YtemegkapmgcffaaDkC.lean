import Derived.Test.YtemegkapmgcffaaDkB
/- The disk: what it is in memory; made, lit, deed. -/
namespace Go.Proofs.Ytemegkapmgcffaa
open Go.RowKit
set_option linter.unusedSimpArgs false
set_option linter.unusedVariables false

/-- but for blocks of F, and new ones, nothing turns; F' is of F, or new -/
structure Cg (F F' : Nat → Prop) (w w' : World) : Prop where
  os : w'.os = w.os
  tape : w'.tape = w.tape
  output : w'.output = w.output
  size : w.heap.size ≤ w'.heap.size
  block : ∀ k, k < w.heap.size → ¬ F k → w'.heap[k]? = w.heap[k]?
  new : ∀ k, F' k → F k ∨ w.heap.size ≤ k
theorem Cg.trans {F F1 F2 : Nat → Prop} {w w1 w2 : World} (h : Cg F F1 w w1) (k : Cg F1 F2 w1 w2) : Cg F F2 w w2 :=
  ⟨k.os.trans h.os, k.tape.trans h.tape, k.output.trans h.output, Nat.le_trans h.size k.size, fun j hj hl => (k.block j (Nat.lt_of_lt_of_le hj h.size) (fun h1 => by
    rcases h.new j h1 with h2 | h2
    · exact hl h2
    · omega)).trans (h.block j hj hl), fun j hj => by
    rcases k.new j hj with h1 | h1
    · exact h.new j h1
    · exact .inr (Nat.le_trans h.size h1)⟩
theorem Cg.below {F : Nat → Prop} {w w' : World} (h : Below w.heap.size w w') : Cg F F w w' := ⟨h.os, h.tape, h.output, h.size, fun k hk _ => h.block k hk, fun _ hj => .inl hj⟩
theorem Cg.grown {F : Nat → Prop} {w w' : World} {g : Nat} (h : w.grownBy w' (some g)) (hg : F g) : Cg F F w w' := ⟨h.os, h.tape, h.output, h.size, fun k hk hl => h.block k hk (fun e => by cases e; exact hl hg), fun _ hj => .inl hj⟩
theorem Cg.mono {F F' F2 : Nat → Prop} {w w' : World} (h : Cg F F' w w') (hf : ∀ k, F2 k → F' k ∨ w.heap.size ≤ k) : Cg F F2 w w' :=
  ⟨h.os, h.tape, h.output, h.size, h.block, fun k hk => by
    rcases hf k hk with h1 | h1
    · exact h.new k h1
    · exact .inr h1⟩
theorem own_same {w w' : World} {base n c : Nat} {e : TypeId} {size : Nat} {A : Option Addr} {cs : List Value} (ho : Own base e size w A n c cs) (hk : ∀ a, A = some a → w'.heap[a.block]? = w.heap[a.block]?) : Own base e size w' A n c cs := by
  refine ⟨ho.1, ?_⟩
  rcases ho.2 with h0 | ⟨g, cap, cur, h0, h1, h2, h3⟩
  · exact .inl h0
  · refine .inr ⟨g, cap, cur, h0, h1, ?_, h3⟩
    simp only [Value.slice.injEq] at h0
    exact (hk _ h0.1).trans h2
theorem sl_same {w w' : World} {size n c : Nat} {A : Option Addr} {cs : List Value} (h : Sl w size A n c cs) (hk : ∀ a, A = some a → w'.heap[a.block]? = w.heap[a.block]?) : Sl w' size A n c cs := by
  refine ⟨?_, h.len, h.le, h.none⟩
  intro j u hj
  obtain ⟨a, h1, h2⟩ := h.cells j u hj
  refine ⟨a, h1, ?_⟩
  rw [← h2]
  have := hk a h1
  simp only [World.cell?, add_block]
  rw [this]
def dkC (R : Option Addr) (n c : Nat) (D : Dk) : List Value := [.slice R n c, .int .i64 D.room, .int .i64 D.fuse, .bool D.dark, .func (.func 78) #[] #[]]
structure Good (D : Dk) : Prop where
  srt : SrtF D.fs
  room : 0 ≤ D.room ∧ D.room ≤ 16777216
  fuse : -1 ≤ D.fuse ∧ D.fuse ≤ 9223372036854775807
  few : D.fs.length ≤ 200
  safe : ∀ f, f ∈ D.fs → f.safe ≤ f.b.length
  used : (usedF D.fs : Int) ≤ D.room
  nms : ∀ f, f ∈ D.fs → f.nm.length ≤ 60
structure DI (w : World) (base p : Nat) (D : Dk) (F : Nat → Prop) (R : Option Addr) (c : Nat) (es : List FE) : Prop where
  own : Own base 38 1 w (some ⟨p, 0, none⟩) 5 5 (dkC R es.length c D)
  row : Own base 117 3 w R es.length c (flatFE es)
  each : ∀ e, e ∈ es → Sl w 1 e.A e.f.b.length e.c (bytesV e.f.b) ∧ ∀ a, e.A = some a → F a.block ∧ a.block ≠ p ∧ ∀ r, R = some r → a.block ≠ r.block
  fs : es.map FE.f = D.fs
  good : Good D
  fp : F p
  fr : ∀ a, R = some a → F a.block ∧ a.block ≠ p
  bound : ∀ k, F k → base ≤ k ∧ k < w.heap.size
theorem fn_set (w : World) : (binOp .neq 36 (.func (.func 78) #[] #[]) Value.nilFunc).run Try.prog w = .ok (.bool true) w := by
  kernel_rfl
section
variable {w w' : World} {base p : Nat} {D : Dk} {F : Nat → Prop} {R : Option Addr} {c : Nat} {es : List FE}
theorem DI.kept (h : DI w base p D F R c es) (hs : w.heap.size ≤ w'.heap.size) (hk : ∀ k, F k → w'.heap[k]? = w.heap[k]?) : DI w' base p D F R c es :=
  ⟨own_same h.own (fun a ha => by cases ha; exact hk _ h.fp), own_same h.row (fun a ha => hk _ (h.fr a ha).1), fun e he => ⟨sl_same (h.each e he).1 (fun a ha => hk _ ((h.each e he).2 a ha).1), (h.each e he).2⟩, h.fs, h.good, h.fp, h.fr, fun k hf => ⟨(h.bound k hf).1, Nat.lt_of_lt_of_le (h.bound k hf).2 hs⟩⟩
theorem DI.below (h : DI w base p D F R c es) (hb : Below w.heap.size w w') : DI w' base p D F R c es := h.kept hb.size (fun k hf => hb.block k (h.bound k hf).2)
theorem DI.cell (h : DI w base p D F R c es) : w.cell? ⟨p, 0, none⟩ = some (.slice R es.length c) ∧ w.cell? ⟨p, 1, none⟩ = some (.int .i64 D.room) ∧ w.cell? ⟨p, 2, none⟩ = some (.int .i64 D.fuse) ∧ w.cell? ⟨p, 3, none⟩ = some (.bool D.dark) ∧ w.cell? ⟨p, 4, none⟩ = some (.func (.func 78) #[] #[]) := by
  have k0 := World.ownsRow.cellAt h.own 0 (by omega)
  have k1 := World.ownsRow.cellAt h.own 1 (by omega)
  have k2 := World.ownsRow.cellAt h.own 2 (by omega)
  have k3 := World.ownsRow.cellAt h.own 3 (by omega)
  have k4 := World.ownsRow.cellAt h.own 4 (by omega)
  simp only [dkC, List.getElem?_cons_succ, List.getElem?_cons_zero] at k0 k1 k2 k3 k4
  exact ⟨k0, k1, k2, k3, k4⟩
theorem DI.plt (h : DI w base p D F R c es) : base ≤ p ∧ p < w.heap.size := h.bound p h.fp
theorem DI.len (h : DI w base p D F R c es) : es.length ≤ 200 := by have := h.good.few; rw [← h.fs, List.length_map] at this; exact this
theorem Cg.bel {F' : Nat → Prop} (h : Cg F F' w w') (hF : ∀ k, F k → base ≤ k) (hb : base ≤ w.heap.size) : Below base w w' :=
  ⟨h.os, h.tape, h.output, h.size, fun k hk => h.block k (by omega) (fun hf => by have := hF k hf; omega)⟩
/-- cells of the disk itself turn -/
theorem DI.turn (h : DI w base p D F R c es) {D' : Dk} (hg : Good D') (hfs : D'.fs = D.fs) (ho : Own base 38 1 w' (some ⟨p, 0, none⟩) 5 5 (dkC R es.length c D')) (hgr : w.grownBy w' (some p)) : DI w' base p D' F R c es := by
  have hk : ∀ k, F k → k ≠ p → w'.heap[k]? = w.heap[k]? := fun k hf hne => hgr.block k (h.bound k hf).2 (fun e => hne (Option.some.inj e))
  exact ⟨ho, own_same h.row (fun a ha => hk _ (h.fr a ha).1 (h.fr a ha).2), fun e he => ⟨sl_same (h.each e he).1 (fun a ha => hk _ ((h.each e he).2 a ha).1 ((h.each e he).2 a ha).2.1), (h.each e he).2⟩, by rw [hfs]; exact h.fs, hg, h.fp, h.fr, fun k hf => ⟨(h.bound k hf).1, Nat.lt_of_lt_of_le (h.bound k hf).2 hgr.size⟩⟩
set_option maxRecDepth 100000 in
set_option maxHeartbeats 1000000 in
theorem made_any (h : DI w base p D F R c es) : Calls Try.prog 81 #[.pointer (some ⟨p, 0, none⟩)] w fun e w' => e = .returned (.bool true) ∧ w = w' := by
  obtain ⟨c0, c1, c2, c3, c4⟩ := h.cell
  have hnf := fun w => fn_set w
  clear h
  go_enter Try.func81, Try.ntmps81
  go_wp2_with fail
  go_ret
  exact ⟨rfl, rfl⟩
def litD (D : Dk) : Int := if D.dark = true then 15 else 0
set_option maxRecDepth 100000 in
set_option maxHeartbeats 1000000 in
theorem lit_any (h : DI w base p D F R c es) : Calls Try.prog 79 #[.pointer (some ⟨p, 0, none⟩)] w fun e w' => e = .returned (.int .i64 (litD D)) ∧ w = w' := by
  obtain ⟨c0, c1, c2, c3, c4⟩ := h.cell
  go_enter Try.func79, Try.ntmps79
  go_wp2_with fail
  refine (made_any h).mono ?_; rintro e w1 ⟨rfl, rfl⟩
  clear h
  cases hd : D.dark with
  | true =>
    have HL := Lib.hid (show litD D = 15 by unfold litD; rw [if_pos hd])
    rw [hd] at c3
    go_wp2_with fail
    go_ret
    exact ⟨by rw [HL.out]; rfl, rfl⟩
  | false =>
    have HL := Lib.hid (show litD D = 0 by unfold litD; rw [hd]; rfl)
    rw [hd] at c3
    go_wp2_with fail
    go_ret
    exact ⟨by rw [HL.out]; rfl, rfl⟩
def burnt (D : Dk) : Dk := { D with fuse := if 0 < D.fuse then D.fuse - 1 else D.fuse }
theorem Good.burnt {D : Dk} (h : Good D) : Good (burnt D) := ⟨h.srt, h.room, by unfold Proofs.Ytemegkapmgcffaa.burnt; have := h.fuse; simp only; split <;> omega, h.few, h.safe, h.used, h.nms⟩
theorem Good.dark {D : Dk} (h : Good D) : Good (darkD D) := ⟨h.srt, h.room, by unfold darkD; simp, h.few, h.safe, h.used, h.nms⟩
set_option maxRecDepth 100000 in
set_option maxHeartbeats 4000000 in
theorem deed_any (h : DI w base p D F R c es) (N : FuncId) (cap : Array Value) (Post : World → Prop) (hent : ∀ (a : Array Value) (w : World), (callFunc N a).run Try.prog w = .ok (.enter N a) w)
    (hdo : ∀ w1, DI w1 base p (burnt D) F R c es → w.grownBy w1 (some p) → D.fuse ≠ 0 → Calls Try.prog N cap w1 fun e w' => e = .returned (.tuple #[]) ∧ Post w') :
    Calls Try.prog 84 #[.pointer (some ⟨p, 0, none⟩), .func (.func N) #[] cap] w fun e w' => if D.fuse = 0 then e = .returned (.int .i64 15) ∧ DI w' base p (darkD D) F R c es ∧ w.grownBy w' (some p) else e = .returned (.int .i64 0) ∧ Post w' := by
  obtain ⟨c0, c1, c2, c3, c4⟩ := h.cell
  have hfu := h.good.fuse
  have y2 := World.ownsRow.frozenAt h.own 2
  have y3 := World.ownsRow.frozenAt h.own 3
  by_cases h0 : D.fuse = 0
  · have st1 := World.ownsRow.stored h.own 2 (.int .i64 (-1))
    have st2 := World.ownsRow.stored st1.1 3 (.bool true)
    have hfin : DI ((w.setCell ⟨p, 2, none⟩ (.int .i64 (-1))).setCell ⟨p, 3, none⟩ (.bool true)) base p (darkD D) F R c es := h.turn h.good.dark rfl st2.1 (st1.2.trans st2.2)
    have hgr := st1.2.trans st2.2
    have z3 := World.ownsRow.frozenAt st1.1 3
    have Hfin := Lib.hid hfin
    have Hgr := Lib.hid hgr
    rw [h0] at c2
    clear hfin hgr st1 st2 h
    go_enter Try.func84, Try.ntmps84
    go_wp2_with fail
    go_ret
    try rw [if_pos h0]
    exact ⟨rfl, Hfin.out, Hgr.out⟩
  · by_cases h1 : 0 < D.fuse
    · have st1 := World.ownsRow.stored h.own 2 (.int .i64 (D.fuse - 1))
      have hb1 : burnt D = { D with fuse := D.fuse - 1 } := by unfold burnt; rw [if_pos h1]
      have hfin : DI (w.setCell ⟨p, 2, none⟩ (.int .i64 (D.fuse - 1))) base p (burnt D) F R c es := h.turn h.good.burnt rfl (by rw [hb1]; exact st1.1) st1.2
      have Hdo := Lib.hid (hdo _ hfin st1.2 h0)
      have H0 := Lib.hid h0
      obtain ⟨fu, hf⟩ : ∃ fu, fu = D.fuse := ⟨_, rfl⟩
      rw [← hf] at c2 hfu h0 h1 Hdo
      clear hfin st1 h hb1 hf hdo
      go_enter Try.func84, Try.ntmps84
      go_wp2_with fail
      refine Hdo.out.mono ?_; rintro e w3 ⟨rfl, hp⟩
      go_wp2_with fail
      go_ret
      try rw [if_neg H0.out]
      exact ⟨rfl, hp⟩
    · have hb1 : burnt D = D := by unfold burnt; rw [if_neg h1]
      have Hdo := Lib.hid (hdo w (by rw [hb1]; exact h) (World.grownBy.refl _ _) h0)
      have H0 := Lib.hid h0
      obtain ⟨fu, hf⟩ : ∃ fu, fu = D.fuse := ⟨_, rfl⟩
      rw [← hf] at c2 hfu h0 h1
      clear h hb1 hf hdo
      go_enter Try.func84, Try.ntmps84
      go_wp2_with fail
      refine Hdo.out.mono ?_; rintro e w3 ⟨rfl, hp⟩
      go_wp2_with fail
      go_ret
      try rw [if_neg H0.out]
      exact ⟨rfl, hp⟩
end
end Go.Proofs.Ytemegkapmgcffaa
