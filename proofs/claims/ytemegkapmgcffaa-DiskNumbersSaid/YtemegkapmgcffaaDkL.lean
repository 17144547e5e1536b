import Derived.Test.YtemegkapmgcffaaDkJ
/- The disk: Rename, whole. -/
namespace Go.Proofs.Ytemegkapmgcffaa
open Go.RowKit
set_option linter.unusedSimpArgs false
set_option linter.unusedVariables false

def mayRen (tn : Nm) : Int := if namedF tn = true then 0 else 16
set_option maxRecDepth 100000 in
set_option maxHeartbeats 2000000 in
theorem ren1_any (s y z : Value) (tn : Nm) (tb : Nat) (w : World) (htb : w.cell? ⟨tb, 0, none⟩ = some (.string (bstr tn))) (hl : tn.length ≤ maxLen) :
    Calls Try.prog 91 #[.agg #[s, y, z], .pointer (some ⟨tb, 0, none⟩)] w fun x w' => x = .returned (.int .i64 (mayRen tn)) ∧ Below w.heap.size w w' := by
  have hb := below_alloc1 w (.cells #[s, y, z] 117)
  have hc1 := cellB hb htb
  have HM := Lib.hid (show mayRen tn = if namedF tn = true then 0 else 16 from rfl)
  have Hb := Lib.hid hb
  clear htb hb
  go_enter Try.func91, Try.ntmps91
  go_wp2_with fail
  refine (named_any tn hl _).mono ?_; rintro e w1 ⟨rfl, rfl⟩
  cases hn : namedF tn with
  | true =>
    go_wp2_with fail
    go_ret
    exact ⟨by rw [HM.out, if_pos hn]; rfl, Hb.out⟩
  | false =>
    go_wp2_with fail
    go_ret
    exact ⟨by rw [HM.out, if_neg (by rw [hn]; simp)]; rfl, Hb.out⟩
theorem ent_ren1 (a : Array Value) (w : World) : (callFunc 91 a).run Try.prog w = .ok (.enter 91 a) w := by kernel_rfl
theorem ent_ren2 (a : Array Value) (w : World) : (callFunc 92 a).run Try.prog w = .ok (.enter 92 a) w := by kernel_rfl
theorem named_len {tn : Nm} (h : namedF tn = true) : tn.length ≤ 60 := by
  unfold namedF at h
  simp only [Bool.and_eq_true, decide_eq_true_eq] at h
  exact h.2.2
section
variable {w : World} {base p : Nat} {D : Dk} {F : Nat → Prop} {R : Option Addr} {c : Nat} {es : List FE}
set_option maxRecDepth 100000 in
set_option maxHeartbeats 4000000 in
theorem Rename_any (h : DkIs w base p D F) (nm tn : Nm) (hl : tn.length ≤ maxLen) :
    Calls Try.prog 36 #[.pointer (some ⟨p, 0, none⟩), .string (bstr nm), .string (bstr tn)] w fun x w' => x = .returned (.int .i64 (renameD D nm tn).1) ∧ ∃ F', DkIs w' base p (renameD D nm tn).2 F' ∧ Cg F F' w w' := by
  obtain ⟨R, c, es, h⟩ := h
  have hmf : ∀ (fn : Fn) (first cap : Array Value) (w : World), (Instr.makeFunc fn first cap).run Try.prog w = .ok (.func fn first cap) w := fun _ _ _ _ => rfl
  obtain ⟨W0, hW0⟩ : ∃ W0, W0 = w.alloc (.cells #[.pointer (some ⟨p, 0, none⟩)] 34) := ⟨_, rfl⟩
  obtain ⟨W1, hW1⟩ : ∃ W1, W1 = W0.alloc (.cells #[.string (bstr tn)] 9) := ⟨_, rfl⟩
  have hs0 : W0.heap.size = w.heap.size + 1 := by rw [hW0]; simp
  have hb0 : Below w.heap.size w W0 := by rw [hW0]; exact below_alloc1 _ _
  have hb01 : Below W0.heap.size W0 W1 := by rw [hW1]; exact below_alloc1 _ _
  have hb : Below w.heap.size w W1 := hb0.trans (hb01.mono (by omega))
  have h1 := h.below hb
  have hnbx : ¬ F w.heap.size := fun hf => by have := (h.bound _ hf).2; omega
  have hnnb : ¬ F W0.heap.size := fun hf => by have := (h.bound _ hf).2; omega
  have hbx : W1.cell? ⟨w.heap.size, 0, none⟩ = some (.pointer (some ⟨p, 0, none⟩)) := box_kept (Cg.below (F := fun _ => False) hb01) (by rw [hW0]; exact box_new w _ _) (fun h => h)
  have hnb : W1.cell? ⟨W0.heap.size, 0, none⟩ = some (.string (bstr tn)) := by rw [hW1]; exact box_new W0 _ _
  have Hb := Lib.hid hb
  have H1 := Lib.hid h1
  have Hsy := Lib.hid (show ∀ e w1, es[posF D.fs nm]? = some e → mayRen tn = 0 → DI w1 base p (burnt D) F R c es → Cg F F W1 w1 → Calls Try.prog 92 (#[.int .i64 (posF D.fs nm : Int)] ++ #[.pointer (some ⟨w.heap.size, 0, none⟩), .pointer (some ⟨w.heap.size + 1, 0, none⟩)]) w1 fun x w' => x = .returned (.tuple #[]) ∧ ∃ f F', D.fs[posF D.fs nm]? = some f ∧ DkIs w' base p { burnt D with fs := moveF D.fs (posF D.fs nm) f tn } F' ∧ Cg F F' W1 w' from fun e w1 he hm h5 hc5 => by
    rw [app12, ← hs0]
    have hn : tn.length ≤ 60 := by
      unfold mayRen at hm
      split at hm
      · rename_i h; exact named_len h
      · cases hm
    exact (ren2_any h5 (box_kept hc5 hbx hnbx) hnbx (box_kept hc5 hnb hnnb) hnnb he hn).mono (fun x w' ⟨k1, F2, k2, k3⟩ => ⟨k1, e.f, F2, H1.out.fsAt he, k2, hc5.trans k3⟩))
  have Hal := Lib.hid (show ∀ (e : FE) (w1 : World), Below W1.heap.size W1 w1 → Calls Try.prog 91 (#[.agg #[.string (bstr e.f.nm), .slice e.A e.f.b.length e.c, .int .i64 e.f.safe]] ++ #[.pointer (some ⟨w.heap.size + 1, 0, none⟩)]) w1 fun x w' => x = .returned (.int .i64 (mayRen tn)) ∧ Below w1.heap.size w1 w' from fun e w1 hb1 => by
    rw [app2, ← hs0]
    exact ren1_any _ _ _ _ _ w1 (box_kept (Cg.below (F := fun _ => False) hb1) hnb (fun h => h)) hl)
  have HW1 := Lib.hid (show (w.alloc (.cells #[.pointer (some ⟨p, 0, none⟩)] 34)).alloc (.cells #[.string (bstr tn)] 9) = W1 by rw [hW1, hW0])
  have hx1 : ((w.alloc (.cells #[.pointer (some ⟨p, 0, none⟩)] 34)).alloc (.cells #[.string (bstr tn)] 9)).cell? ⟨w.heap.size, 0, none⟩ = some (.pointer (some ⟨p, 0, none⟩)) := by rw [HW1.out]; exact hbx
  clear h1 hb h hb0 hb01 hbx hnb hnbx hnnb hs0 hW1 hW0
  go_enter Try.func36, Try.ntmps36
  go_wp2_with fail
  rw [HW1.out]
  refine (of_any H1.out nm 91 92 #[.pointer (some ⟨w.heap.size + 1, 0, none⟩)] #[.pointer (some ⟨w.heap.size, 0, none⟩), .pointer (some ⟨w.heap.size + 1, 0, none⟩)] (fun _ => mayRen tn) (fun w' => ∃ f F', D.fs[posF D.fs nm]? = some f ∧ DkIs w' base p { burnt D with fs := moveF D.fs (posF D.fs nm) f tn } F' ∧ Cg F F' W1 w') ent_ren1 ent_ren2 (fun e w1 _ hb => Hal.out e w1 hb) (fun e w1 he _ _ _ hm _ h5 hc5 => Hsy.out e w1 he hm h5 hc5)).mono ?_
  rintro x w6 hx
  obtain ⟨rfl, F', k1, k2⟩ := of_law H1.out (may := fun _ => mayRen tn) (act := fun i f => moveF D.fs i f tn) hx
  have K1 := Lib.hid k1
  have K2 := Lib.hid ((Cg.below Hb.out).trans k2)
  clear hx k1 k2
  go_wp2_with fail
  go_ret
  exact ⟨rfl, F', K1.out, K2.out⟩
end
end Go.Proofs.Ytemegkapmgcffaa
