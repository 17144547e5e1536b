import Derived.Test.YtemegkapmgcffaaDkH
/- The disk: Cut, whole. -/
namespace Go.Proofs.Ytemegkapmgcffaa
open Go.RowKit
set_option linter.unusedSimpArgs false
set_option linter.unusedVariables false

def mayCut (n : Int) (m : Nat) : Int := if n < 0 ∨ (m : Int) < n then 2 else 0
set_option maxRecDepth 100000 in
set_option maxHeartbeats 2000000 in
theorem cut1_any (s : Value) (A : Option Addr) (m c : Nat) (z : Value) (n : Int) (nb : Nat) (w : World) (hnb : w.cell? ⟨nb, 0, none⟩ = some (.int .i64 n)) :
    Calls Try.prog 97 #[.agg #[s, .slice A m c, z], .pointer (some ⟨nb, 0, none⟩)] w fun x w' => x = .returned (.int .i64 (mayCut n m)) ∧ Below w.heap.size w w' := by
  have hb := below_alloc1 w (.cells #[s, .slice A m c, z] 117)
  have hc1 : (w.alloc (.cells #[s, .slice A m c, z] 117)).cell? ⟨nb, 0, none⟩ = some (.int .i64 n) := box_kept (Cg.below (F := fun _ => False) hb) hnb (fun h => h)
  have HM := Lib.hid (show mayCut n m = if n < 0 ∨ (m : Int) < n then 2 else 0 from rfl)
  have Hb := Lib.hid hb
  clear hnb hb
  go_enter Try.func97, Try.ntmps97
  by_cases h0 : n < 0
  · have h1 : decide (n < 0) = true := by simpa using h0
    go_wp2_with fail
    go_ret
    exact ⟨by rw [HM.out, if_pos (.inl h0)]; rfl, Hb.out⟩
  · by_cases h2 : (m : Int) < n
    · have h1 : decide (n < 0) = false := by simpa using h0
      have h3 : decide ((m : Int) < n) = true := by simpa using h2
      go_wp2_with fail
      go_ret
      exact ⟨by rw [HM.out, if_pos (.inr h2)]; rfl, Hb.out⟩
    · have h1 : decide (n < 0) = false := by simpa using h0
      have h3 : decide ((m : Int) < n) = false := by simpa using h2
      go_wp2_with fail
      go_ret
      exact ⟨by rw [HM.out, if_neg (by omega)]; rfl, Hb.out⟩
theorem ent_cut1 (a : Array Value) (w : World) : (callFunc 97 a).run Try.prog w = .ok (.enter 97 a) w := by kernel_rfl
theorem ent_cut2 (a : Array Value) (w : World) : (callFunc 98 a).run Try.prog w = .ok (.enter 98 a) w := by kernel_rfl
theorem app12 (a b c : Value) : (#[a] ++ #[b, c] : Array Value) = #[a, b, c] := rfl
section
variable {w : World} {base p : Nat} {D : Dk} {F : Nat → Prop} {R : Option Addr} {c : Nat} {es : List FE}
set_option maxRecDepth 100000 in
set_option maxHeartbeats 4000000 in
theorem Cut_any (h : DkIs w base p D F) (nm : Nm) (n : Int) :
    Calls Try.prog 43 #[.pointer (some ⟨p, 0, none⟩), .string (bstr nm), .int .i64 n] w fun x w' => x = .returned (.int .i64 (cutD D nm n).1) ∧ ∃ F', DkIs w' base p (cutD D nm n).2 F' ∧ Cg F F' w w' := by
  obtain ⟨R, c, es, h⟩ := h
  have hmf : ∀ (fn : Fn) (first cap : Array Value) (w : World), (Instr.makeFunc fn first cap).run Try.prog w = .ok (.func fn first cap) w := fun _ _ _ _ => rfl
  obtain ⟨W0, hW0⟩ : ∃ W0, W0 = w.alloc (.cells #[.pointer (some ⟨p, 0, none⟩)] 34) := ⟨_, rfl⟩
  obtain ⟨W1, hW1⟩ : ∃ W1, W1 = W0.alloc (.cells #[.int .i64 n] 3) := ⟨_, rfl⟩
  have hs0 : W0.heap.size = w.heap.size + 1 := by rw [hW0]; simp
  have hb0 : Below w.heap.size w W0 := by rw [hW0]; exact below_alloc1 _ _
  have hb01 : Below W0.heap.size W0 W1 := by rw [hW1]; exact below_alloc1 _ _
  have hb : Below w.heap.size w W1 := hb0.trans (hb01.mono (by omega))
  have h1 := h.below hb
  have hnbx : ¬ F w.heap.size := fun hf => by have := (h.bound _ hf).2; omega
  have hnnb : ¬ F W0.heap.size := fun hf => by have := (h.bound _ hf).2; omega
  have hbx : W1.cell? ⟨w.heap.size, 0, none⟩ = some (.pointer (some ⟨p, 0, none⟩)) := box_kept (Cg.below (F := fun _ => False) hb01) (by rw [hW0]; exact box_new w _ _) (fun h => h)
  have hnb : W1.cell? ⟨W0.heap.size, 0, none⟩ = some (.int .i64 n) := by rw [hW1]; exact box_new W0 _ _
  have hsz : W0.heap.size = w.heap.size + 1 := hs0
  have Hb := Lib.hid hb
  have H1 := Lib.hid h1
  have Hsy := Lib.hid (show ∀ e w1, es[posF D.fs nm]? = some e → mayCut n e.f.b.length = 0 → DI w1 base p (burnt D) F R c es → Cg F F W1 w1 → Calls Try.prog 98 (#[.int .i64 (posF D.fs nm : Int)] ++ #[.pointer (some ⟨w.heap.size, 0, none⟩), .pointer (some ⟨w.heap.size + 1, 0, none⟩)]) w1 fun x w' => x = .returned (.tuple #[]) ∧ ∃ f F', D.fs[posF D.fs nm]? = some f ∧ DkIs w' base p { burnt D with fs := D.fs.set (posF D.fs nm) ⟨f.nm, f.b.take n.toNat, n.toNat⟩ } F' ∧ Cg F F' W1 w' from fun e w1 he hm h5 hc5 => by
    rw [app12, ← hs0]
    have hn : 0 ≤ n ∧ n ≤ (e.f.b.length : Int) := by
      unfold mayCut at hm
      split at hm
      · cases hm
      · omega
    have hn2 : ((n.toNat : Nat) : Int) = n := Int.toNat_of_nonneg hn.1
    exact (cut2_any h5 (box_kept hc5 hbx hnbx) hnbx (n := n.toNat) (box_kept hc5 (by rw [hn2]; exact hnb) hnnb) hnnb he (by omega)).mono (fun x w' ⟨k1, F2, k2, k3⟩ => ⟨k1, e.f, F2, H1.out.fsAt he, k2, hc5.trans k3⟩))
  have Hal := Lib.hid (show ∀ (e : FE) (w1 : World), Below W1.heap.size W1 w1 → Calls Try.prog 97 (#[.agg #[.string (bstr e.f.nm), .slice e.A e.f.b.length e.c, .int .i64 e.f.safe]] ++ #[.pointer (some ⟨w.heap.size + 1, 0, none⟩)]) w1 fun x w' => x = .returned (.int .i64 (mayCut n e.f.b.length)) ∧ Below w1.heap.size w1 w' from fun e w1 hb1 => by
    rw [app2, ← hs0]
    exact cut1_any _ _ _ _ _ _ _ w1 (box_kept (Cg.below (F := fun _ => False) hb1) hnb (fun h => h)))
  have HW1 := Lib.hid (show (w.alloc (.cells #[.pointer (some ⟨p, 0, none⟩)] 34)).alloc (.cells #[.int .i64 n] 3) = W1 by rw [hW1, hW0])
  have hx1 : ((w.alloc (.cells #[.pointer (some ⟨p, 0, none⟩)] 34)).alloc (.cells #[.int .i64 n] 3)).cell? ⟨w.heap.size, 0, none⟩ = some (.pointer (some ⟨p, 0, none⟩)) := by rw [HW1.out]; exact hbx
  clear h1 hb h hb0 hb01 hbx hnb hnbx hnnb hsz hs0 hW1 hW0
  go_enter Try.func43, Try.ntmps43
  go_wp2_with fail
  rw [HW1.out]
  refine (of_any H1.out nm 97 98 #[.pointer (some ⟨w.heap.size + 1, 0, none⟩)] #[.pointer (some ⟨w.heap.size, 0, none⟩), .pointer (some ⟨w.heap.size + 1, 0, none⟩)] (fun f => mayCut n f.b.length) (fun w' => ∃ f F', D.fs[posF D.fs nm]? = some f ∧ DkIs w' base p { burnt D with fs := D.fs.set (posF D.fs nm) ⟨f.nm, f.b.take n.toNat, n.toNat⟩ } F' ∧ Cg F F' W1 w') ent_cut1 ent_cut2 (fun e w1 _ hb => Hal.out e w1 hb) (fun e w1 he _ _ _ hm _ h5 hc5 => Hsy.out e w1 he hm h5 hc5)).mono ?_
  rintro x w6 hx
  obtain ⟨rfl, F', k1, k2⟩ := of_law H1.out (may := fun f => mayCut n f.b.length) (act := fun i f => D.fs.set i ⟨f.nm, f.b.take n.toNat, n.toNat⟩) hx
  have K1 := Lib.hid k1
  have K2 := Lib.hid ((Cg.below Hb.out).trans k2)
  clear hx k1 k2
  go_wp2_with fail
  go_ret
  exact ⟨rfl, F', K1.out, K2.out⟩
end
end Go.Proofs.Ytemegkapmgcffaa
