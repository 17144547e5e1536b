import Derived.Test.YtemegkapmgcffaaDlB
/- Two disks of the caller's own. -/
namespace Go.Proofs.Ytemegkapmgcffaa
open Go.RowKit
set_option linter.unusedSimpArgs false
set_option linter.unusedVariables false

def Dsk2 (W w : World) (pa : Nat) (Da : Dk) (pb : Nat) (Db : Dk) : Prop := ∃ Fa Fb, DkIs w W.heap.size pa Da Fa ∧ DkIs w W.heap.size pb Db Fb ∧ (∀ q, Fa q → ¬ Fb q) ∧ Below W.heap.size W w
theorem DkIs.away {w w' : World} {base p : Nat} {D : Dk} {F G G' : Nat → Prop} (h : DkIs w base p D F) (hc : Cg G G' w w') (hd : ∀ q, F q → ¬ G q) : DkIs w' base p D F := by
  obtain ⟨R, c, es, h⟩ := h
  exact ⟨R, c, es, h.kept hc.size (fun q hq => hc.block q (h.bound q hq).2 (hd q hq))⟩
section
variable {W w : World} {pa pb : Nat} {Da Db : Dk}
theorem Dsk2.swap (h : Dsk2 W w pa Da pb Db) : Dsk2 W w pb Db pa Da := by
  obtain ⟨Fa, Fb, h1, h2, h3, h4⟩ := h
  exact ⟨Fb, Fa, h2, h1, fun q hq hf => h3 q hf hq, h4⟩
theorem Dsk2.bel (h : Dsk2 W w pa Da pb Db) : Below W.heap.size W w := by obtain ⟨Fa, Fb, h1, h2, h3, h4⟩ := h; exact h4
theorem Dsk2.below {w' : World} (h : Dsk2 W w pa Da pb Db) (hb : Below w.heap.size w w') : Dsk2 W w' pa Da pb Db := by
  obtain ⟨Fa, Fb, h1, h2, h3, h4⟩ := h
  exact ⟨Fa, Fb, h1.below hb, h2.below hb, h3, h4.trans (hb.mono h4.size)⟩
theorem Dsk2.good (h : Dsk2 W w pa Da pb Db) : Good Da := by obtain ⟨Fa, Fb, h1, h2, h3, h4⟩ := h; exact h1.good
/-- a step of the first one -/
theorem Dsk2.step {P : Ending → Prop} {f : FuncId} {args : Array Value} {D' : Dk} (h : Dsk2 W w pa Da pb Db)
    (hc : ∀ F, DkIs w W.heap.size pa Da F → Calls Try.prog f args w fun x w' => P x ∧ ∃ F', DkIs w' W.heap.size pa D' F' ∧ Cg F F' w w') :
    Calls Try.prog f args w fun x w' => P x ∧ Dsk2 W w' pa D' pb Db := by
  obtain ⟨Fa, Fb, h1, h2, h3, h4⟩ := h
  refine (hc Fa h1).mono fun x w' ⟨k1, F', k2, k3⟩ => ⟨k1, F', Fb, k2, h2.away k3 (fun q hq hf => h3 q hf hq), fun q hq hf => ?_, h4.trans (k3.bel (fun q hq => (h1.bound q hq).1) h4.size)⟩
  rcases k3.new q hq with h5 | h5
  · exact h3 q h5 hf
  · have := (h2.bound q hf).2; omega
/-- blocks that are newer than the disks stay -/
theorem Dsk2.stepK {w0 : World} {P : Ending → Prop} {f : FuncId} {args : Array Value} {D' : Dk} (h : Dsk2 W w0 pa Da pb Db) (hb : Below w0.heap.size w0 w)
    (hc : ∀ F, DkIs w W.heap.size pa Da F → Calls Try.prog f args w fun x w' => P x ∧ ∃ F', DkIs w' W.heap.size pa D' F' ∧ Cg F F' w w') :
    Calls Try.prog f args w fun x w' => P x ∧ Dsk2 W w' pa D' pb Db ∧ ∀ q, w0.heap.size ≤ q → q < w.heap.size → w'.heap[q]? = w.heap[q]? := by
  obtain ⟨Fa, Fb, h1, h2, h3, h4⟩ := h
  have hB := h4.trans (hb.mono h4.size)
  refine (hc Fa (h1.below hb)).mono fun x w' ⟨k1, F', k2, k3⟩ => ⟨k1, ⟨F', Fb, k2, (h2.below hb).away k3 (fun q hq hf => h3 q hf hq), fun q hq hf => ?_, hB.trans (k3.bel (fun q hq => (h1.bound q hq).1) hB.size)⟩, fun q hq1 hq2 => k3.block q hq2 (fun hf => by have := (h1.bound q hf).2; omega)⟩
  rcases k3.new q hq with h5 | h5
  · exact h3 q h5 hf
  · have := (h2.bound q hf).2; have := hb.size; omega
theorem does_dsk2 (h : Dsk2 W w pa Da pb Db) (d : Ded) (hd0 : OkDed W d) (hl : largeB d = false) :
    Calls Try.prog 47 #[.pointer (some ⟨pa, 0, none⟩), .agg (dedC d).toArray] w fun x w' => x = .returned (.int .i64 (doesD Da d).1) ∧ Dsk2 W w' pa (doesD Da d).2 pb Db :=
  h.step (P := fun x => x = .returned (.int .i64 (doesD Da d).1)) fun F hF => does_any hF d hd0 (hd0.below h.bel) (Nat.le_refl _) hl
theorem new_dsk2 {room : Int} {w : World} {pa : Nat} {Da : Dk} (h : Dsk W w pa Da) (hr : 0 ≤ room ∧ room ≤ 16777216) : Calls Try.prog 28 #[.int .i64 room] w fun x w' => ∃ pb, x = .returned (.tuple #[.pointer (some ⟨pb, 0, none⟩), .int .i64 0]) ∧ Dsk2 W w' pa Da pb (newD room) := by
  obtain ⟨F, h1, h2⟩ := h
  exact (New_ok room w hr h2.size).mono fun x w' ⟨p, F', k1, k2, k3, k4⟩ => ⟨p, k1, F, F', h1.below k4, k2, fun q hq hf => by have := (h1.bound q hq).2; have := k3 q hf; omega, h2.trans (k4.mono h2.size)⟩
theorem Dsk2.one (h : Dsk2 W w pa Da pb Db) : Dsk W w pa Da := by obtain ⟨Fa, Fb, h1, h2, h3, h4⟩ := h; exact ⟨Fa, h1, h4⟩
/-- a call that only reads -/
theorem Dsk2.look {f : FuncId} {args : Array Value} {v : Value} (h : Dsk2 W w pa Da pb Db) (hc : ∀ F, DkIs w W.heap.size pa Da F → Calls Try.prog f args w fun x w' => x = .returned v ∧ Below w.heap.size w w') :
    Calls Try.prog f args w fun x w' => x = .returned v ∧ Below w.heap.size w w' ∧ Dsk2 W w' pa Da pb Db := by
  have h0 := h
  obtain ⟨Fa, Fb, h1, h2, h3, h4⟩ := h
  exact (hc Fa h1).mono fun x w' ⟨k1, k2⟩ => ⟨k1, k2, h0.below k2⟩
theorem size_dsk2 {nm : Nm} {s : ByteArray} (h : Dsk2 W w pa Da pb Db) (hs : s = bstr nm) : Calls Try.prog 45 #[.pointer (some ⟨pa, 0, none⟩), .string s] w fun x w' => x = .returned (.int .i64 ((lookF Da.fs nm).b.length : Int)) ∧ Below w.heap.size w w' ∧ Dsk2 W w' pa Da pb Db := by
  subst hs
  exact h.look fun F hF => Size_any hF nm
theorem synced_dsk2 {nm : Nm} {s : ByteArray} (h : Dsk2 W w pa Da pb Db) (hs : s = bstr nm) : Calls Try.prog 48 #[.pointer (some ⟨pa, 0, none⟩), .string s] w fun x w' => x = .returned (.int .i64 ((lookF Da.fs nm).safe : Int)) ∧ Below w.heap.size w w' ∧ Dsk2 W w' pa Da pb Db := by
  subst hs
  exact h.look fun F hF => Synced_any hF nm
theorem used_dsk2 (h : Dsk2 W w pa Da pb Db) : Calls Try.prog 30 #[.pointer (some ⟨pa, 0, none⟩)] w fun x w' => x = .returned (.int .i64 (usedF Da.fs : Int)) ∧ Below w.heap.size w w' ∧ Dsk2 W w' pa Da pb Db :=
  h.look fun F hF => Used_any hF
theorem read_dsk2 {nm : Nm} {s : ByteArray} (h : Dsk2 W w pa Da pb Db) (hs : s = bstr nm) : Calls Try.prog 29 #[.pointer (some ⟨pa, 0, none⟩), .string s] w fun x w' => ∃ A c, x = .returned (.tuple #[.slice A (readD Da nm).1.length c, .int .i64 (readD Da nm).2]) ∧ Own w.heap.size 5 1 w' A (readD Da nm).1.length c (bytesV (readD Da nm).1) ∧ Below w.heap.size w w' ∧ Dsk2 W w' pa Da pb Db := by
  subst hs
  have h0 := h
  obtain ⟨Fa, Fb, h1, h2, h3, h4⟩ := h
  exact (Read_any h1 nm).mono fun x w' ⟨A, c, k1, k2, k3⟩ => ⟨A, c, k1, k2, k3, h0.below k3⟩
theorem crash_dsk2 {w0 : World} {K1 K2 : Option Addr} {n1 c1 n2 c2 : Nat} {ks ts : List Int} (h : Dsk2 W w0 pa Da pb Db) (hb : Below w0.heap.size w0 w) (s1 : Sl w 1 K1 n1 c1 (ks.map fun x => .int .i64 x)) (s2 : Sl w 1 K2 n2 c2 (ts.map fun x => .int .i64 x)) (h1 : ks ≠ [] → Apt W w0 K1) (h2 : ts ≠ [] → Apt W w0 K2)
    (hn1 : n1 ≤ 9223372036854775807) (hn2 : n2 ≤ 9223372036854775807) (hk1 : ∀ x, x ∈ ks → x ≤ 9223372036854775807) (hk2 : ∀ x, x ∈ ts → x ≤ 9223372036854775807) :
    Calls Try.prog 37 #[.pointer (some ⟨pa, 0, none⟩), .slice K1 n1 c1, .slice K2 n2 c2] w fun x w' => x = .returned (.tuple #[]) ∧ Dsk2 W w' pa (crashD Da ks ts) pb Db := by
  obtain ⟨Fa, Fb, i1, i2, i3, i4⟩ := h
  have key : ∀ {A : Option Addr}, Apt W w0 A → ∀ a, A = some a → ¬ Fa a.block := fun {A} hA a ha hf => by
    have := i1.bound _ hf
    rcases hA a ha with h5 | h5 <;> omega
  have hB := i4.trans (hb.mono i4.size)
  refine (Crash_any (i1.below hb) s1 s2 (fun a ha hne => key (h1 hne) a ha) (fun a ha hne => key (h2 hne) a ha) hn1 hn2 hk1 hk2).mono fun x w' ⟨k1, F', k2, k3⟩ => ⟨k1, F', Fb, k2, (i2.below hb).away k3 (fun q hq hf => i3 q hf hq), fun q hq hf => ?_, hB.trans (k3.bel (fun q hq => (i1.bound q hq).1) hB.size)⟩
  rcases k3.new q hq with h5 | h5
  · exact i3 q h5 hf
  · have := (i2.bound q hf).2; have := hb.size; omega
end
end Go.Proofs.Ytemegkapmgcffaa
