import Derived.Test.YtemegkapmgcffaaDkE
/- The disk: Sync, whole. -/
namespace Go.Proofs.Ytemegkapmgcffaa
open Go.RowKit
set_option linter.unusedSimpArgs false
set_option linter.unusedVariables false

def DkIs (w : World) (base p : Nat) (D : Dk) (F : Nat → Prop) : Prop := ∃ R c es, DI w base p D F R c es
theorem DkIs.below {w w' : World} {base p : Nat} {D : Dk} {F : Nat → Prop} (h : DkIs w base p D F) (hb : Below w.heap.size w w') : DkIs w' base p D F := by
  obtain ⟨R, c, es, h⟩ := h
  exact ⟨R, c, es, h.below hb⟩
theorem ent_always (a : Array Value) (w : World) : (callFunc 89 a).run Try.prog w = .ok (.enter 89 a) w := by kernel_rfl
theorem ent_sync1 (a : Array Value) (w : World) : (callFunc 90 a).run Try.prog w = .ok (.enter 90 a) w := by kernel_rfl
set_option maxHeartbeats 1000000 in
theorem always_any (a b c : Value) (w : World) : Calls Try.prog 89 #[.agg #[a, b, c]] w fun x w' => x = .returned (.int .i64 0) ∧ Below w.heap.size w w' := by
  have hb := below_alloc1 w (.cells #[a, b, c] 117)
  go_enter Try.func89, Try.ntmps89
  go_wp2_with fail
  go_ret
  exact ⟨rfl, by first | exact hb | exact Below.refl _ _⟩
section
variable {W : World} {base p : Nat} {D : Dk} {F : Nat → Prop} {R : Option Addr} {c : Nat} {es : List FE}
theorem DI.fsAt (h : DI W base p D F R c es) {k : Nat} {e : FE} (he : es[k]? = some e) : D.fs[k]? = some e.f := by
  have : (es.map FE.f)[k]? = some e.f := by rw [List.getElem?_map, he]; rfl
  rwa [h.fs] at this
theorem of_law (h : DI W base p D F R c es) {nm : Nm} {may : Fl → Int} {act : Nat → Fl → List Fl} {x : Ending} {w' : World}
    (hx : (D.dark = true ∧ x = .returned (.int .i64 15) ∧ Below W.heap.size W w') ∨
      (D.dark = false ∧ thereF D.fs nm = false ∧ x = .returned (.int .i64 16) ∧ Below W.heap.size W w') ∨
      (D.dark = false ∧ thereF D.fs nm = true ∧ ∃ e, es[posF D.fs nm]? = some e ∧ e.f.nm = nm ∧
        ((may e.f ≠ 0 ∧ x = .returned (.int .i64 (may e.f)) ∧ Below W.heap.size W w') ∨ (may e.f = 0 ∧ D.fuse = 0 ∧ x = .returned (.int .i64 15) ∧ DI w' base p (darkD D) F R c es ∧ Cg F F W w') ∨ (may e.f = 0 ∧ D.fuse ≠ 0 ∧ x = .returned (.int .i64 0) ∧ ∃ f F', D.fs[posF D.fs nm]? = some f ∧ DkIs w' base p { burnt D with fs := act (posF D.fs nm) f } F' ∧ Cg F F' W w')))) :
    x = .returned (.int .i64 (ofD D nm may act).1) ∧ ∃ F', DkIs w' base p (ofD D nm may act).2 F' ∧ Cg F F' W w' := by
  have same : ∀ w', Below W.heap.size W w' → ∃ F', DkIs w' base p D F' ∧ Cg F F' W w' := fun w' hb => ⟨F, ⟨R, c, es, h.below hb⟩, Cg.below hb⟩
  rcases hx with ⟨h1, rfl, h2⟩ | ⟨h1, h3, rfl, h2⟩ | ⟨h1, h3, e, h4, h5, h6⟩
  · have e1 : ofD D nm may act = (15, D) := by unfold ofD; rw [if_pos h1]
    rw [e1]
    exact ⟨rfl, same _ h2⟩
  · have e1 : ofD D nm may act = (16, D) := by unfold ofD; rw [if_neg (by rw [h1]; simp), h3]
    rw [e1]
    exact ⟨rfl, same _ h2⟩
  · have h7 : D.fs[posF D.fs nm]? = some e.f := by
      have : (es.map FE.f)[posF D.fs nm]? = some e.f := by rw [List.getElem?_map, h4]; rfl
      rwa [h.fs] at this
    have e0 : ofD D nm may act = if may e.f ≠ 0 then (may e.f, D) else deedD D (act (posF D.fs nm) e.f) := by
      unfold ofD
      rw [if_neg (by rw [h1]; simp), h3, h7]
    rw [e0]
    rcases h6 with ⟨k1, rfl, k2⟩ | ⟨k1, k2, rfl, k3, k4⟩ | ⟨k1, k2, rfl, f, F', k5, k3, k4⟩
    · rw [if_pos k1]
      exact ⟨rfl, same _ k2⟩
    · rw [if_neg (by simpa using k1)]
      unfold deedD
      rw [if_pos k2]
      exact ⟨rfl, F, ⟨R, c, es, k3⟩, k4⟩
    · rw [if_neg (by simpa using k1)]
      unfold deedD
      rw [if_neg k2]
      rw [h7] at k5
      cases k5
      exact ⟨rfl, F', k3, k4⟩
theorem box_kept {w w' : World} {F F' : Nat → Prop} (h : Cg F F' w w') {b : Nat} {v : Value} (hc : w.cell? ⟨b, 0, none⟩ = some v) (hF : ¬ F b) : w'.cell? ⟨b, 0, none⟩ = some v :=
  (World.cell?_of_block (h.block b (by have := World.block_lt_of_cell? _ _ hc; exact this) hF)).trans hc
theorem app2 (a b : Value) : (#[a] ++ #[b] : Array Value) = #[a, b] := rfl
theorem box_new (w : World) (v : Value) (t : TypeId) : (w.alloc (.cells #[v] t)).cell? ⟨w.heap.size, 0, none⟩ = some v := by
  obtain ⟨a, h1, h2⟩ := (sl_cells w [v] t).cells 0 _ rfl
  cases h1
  rwa [add_plain] at h2
set_option maxRecDepth 100000 in
set_option maxHeartbeats 4000000 in
theorem Sync_any (h : DkIs W base p D F) (nm : Nm) :
    Calls Try.prog 34 #[.pointer (some ⟨p, 0, none⟩), .string (bstr nm)] W fun x w' => x = .returned (.int .i64 (syncD D nm).1) ∧ ∃ F', DkIs w' base p (syncD D nm).2 F' ∧ Cg F F' W w' := by
  obtain ⟨R, c, es, h⟩ := h
  have hmf : ∀ (fn : Fn) (first cap : Array Value) (w : World), (Instr.makeFunc fn first cap).run Try.prog w = .ok (.func fn first cap) w := fun _ _ _ _ => rfl
  have hb := below_alloc1 W (.cells #[.pointer (some ⟨p, 0, none⟩)] 34)
  have hbx := box_new W (.pointer (some ⟨p, 0, none⟩)) 34
  have h1 := h.below hb
  have hnb : ¬ F W.heap.size := fun hf => by have := (h.bound _ hf).2; omega
  obtain ⟨W1, hW1⟩ : ∃ W1, W1 = W.alloc (.cells #[.pointer (some ⟨p, 0, none⟩)] 34) := ⟨_, rfl⟩
  rw [← hW1] at hb hbx h1
  have Hb := Lib.hid hb
  have Hbx := Lib.hid hbx
  have H1 := Lib.hid h1
  have HW1 := Lib.hid hW1
  have Hsy := Lib.hid (show ∀ e w1, es[posF D.fs nm]? = some e → DI w1 base p (burnt D) F R c es → Cg F F W1 w1 → Calls Try.prog 90 (#[.int .i64 (posF D.fs nm : Int)] ++ #[.pointer (some ⟨W.heap.size, 0, none⟩)]) w1 fun x w' => x = .returned (.tuple #[]) ∧ ∃ f F', D.fs[posF D.fs nm]? = some f ∧ DkIs w' base p { burnt D with fs := D.fs.set (posF D.fs nm) ⟨f.nm, f.b, f.b.length⟩ } F' ∧ Cg F F' W1 w' from fun e w1 he h5 hc5 => by
    rw [app2]
    exact (sync1_any h5 (box_kept hc5 Hbx.out hnb) he).mono (fun x w' ⟨k1, k2, k3⟩ => ⟨k1, e.f, F, H1.out.fsAt he, ⟨_, _, _, k2⟩, hc5.trans k3⟩))
  have Hal := Lib.hid (show ∀ (e : FE) (w1 : World), Calls Try.prog 89 (#[.agg #[.string (bstr e.f.nm), .slice e.A e.f.b.length e.c, .int .i64 e.f.safe]] ++ #[]) w1 fun x w' => x = .returned (.int .i64 0) ∧ Below w1.heap.size w1 w' from fun e w1 => by
    rw [Array.append_empty]
    exact always_any _ _ _ w1)
  clear h1 hb h hW1
  go_enter Try.func34, Try.ntmps34
  go_wp2_with fail
  rw [← HW1.out]
  refine (of_any H1.out nm 89 90 #[] #[.pointer (some ⟨W.heap.size, 0, none⟩)] (fun _ => 0) (fun w' => ∃ f F', D.fs[posF D.fs nm]? = some f ∧ DkIs w' base p { burnt D with fs := D.fs.set (posF D.fs nm) ⟨f.nm, f.b, f.b.length⟩ } F' ∧ Cg F F' W1 w') ent_always ent_sync1 (fun e w1 _ _ => Hal.out e w1) (fun e w1 he _ _ _ _ _ h5 hc5 => Hsy.out e w1 he h5 hc5)).mono ?_
  rintro x w6 hx
  obtain ⟨rfl, F', k1, k2⟩ := of_law H1.out (may := fun _ => 0) (act := fun i f => D.fs.set i ⟨f.nm, f.b, f.b.length⟩) hx
  have K1 := Lib.hid k1
  have K2 := Lib.hid ((Cg.below Hb.out).trans k2)
  clear hx k1 k2
  go_wp2_with fail
  go_ret
  exact ⟨rfl, F', K1.out, K2.out⟩
end
end Go.Proofs.Ytemegkapmgcffaa
