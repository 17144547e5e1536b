import Derived.Test.YtemegkapmgcffaaMDe
/- The disk: calls upon no disk (nil, or one that New did not make); printed by wip/gen/gnone.py. -/
namespace Go.Proofs.Ytemegkapmgcffaa
open Go.RowKit
set_option linter.unusedSimpArgs false
set_option linter.unusedVariables false

def NoD (w : World) (v : Option Addr) : Prop := v = none ∨ ∃ p, v = some ⟨p, 0, none⟩ ∧ w.cell? ⟨p, 4, none⟩ = some Value.nilFunc
theorem NoD.below {w w' : World} {v : Option Addr} (h : NoD w v) (hb : Below w.heap.size w w') : NoD w' v := by
  rcases h with h | ⟨p, h1, h2⟩
  · exact .inl h
  · exact .inr ⟨p, h1, cellB hb h2⟩
theorem fn_nil (w : World) : (binOp .neq 36 Value.nilFunc Value.nilFunc).run Try.prog w = .ok (.bool false) w := by
  kernel_rfl
set_option maxHeartbeats 1000000 in
theorem madeN {w : World} {v : Option Addr} (h : NoD w v) : Calls Try.prog 81 #[.pointer v] w fun e w' => e = .returned (.bool false) ∧ w = w' := by
  rcases h with rfl | ⟨p, rfl, hc⟩
  · go_enter Try.func81, Try.ntmps81
    go_wp2_with fail
    go_ret
    exact ⟨rfl, rfl⟩
  · have hnf := fun w => fn_nil w
    go_enter Try.func81, Try.ntmps81
    go_wp2_with fail
    go_ret
    exact ⟨rfl, rfl⟩
set_option maxHeartbeats 1000000 in
theorem litN {w : World} {v : Option Addr} (h : NoD w v) : Calls Try.prog 79 #[.pointer v] w fun e w' => e = .returned (.int .i64 1) ∧ w = w' := by
  have H := Lib.hid h
  clear h
  go_enter Try.func79, Try.ntmps79
  go_wp2_with fail
  refine (madeN H.out).mono ?_; rintro e w1 ⟨rfl, rfl⟩
  go_wp2_with fail
  go_ret
  exact ⟨rfl, rfl⟩
set_option maxRecDepth 100000 in
set_option maxHeartbeats 2000000 in
theorem readN {w : World} {v : Option Addr} (h : NoD w v) (s : ByteArray) : Calls Try.prog 29 #[.pointer v, .string s] w fun e w' => e = .returned (.tuple #[.slice none 0 0, .int .i64 1]) ∧ w = w' := by
  have H := Lib.hid h
  clear h
  go_enter Try.func29, Try.ntmps29
  go_wp2_with fail
  refine (litN H.out).mono ?_; rintro e w1 ⟨rfl, rfl⟩
  go_wp2_with fail
  go_ret2
  exact ⟨rfl, rfl⟩
set_option maxRecDepth 100000 in
set_option maxHeartbeats 2000000 in
theorem armN {w : World} {v : Option Addr} (h : NoD w v) (n : Int) : Calls Try.prog 35 #[.pointer v, .int .i64 n] w fun e w' => e = .returned (.tuple #[]) ∧ w = w' := by
  have H := Lib.hid h
  clear h
  go_enter Try.func35, Try.ntmps35
  go_wp2_with fail
  refine (litN H.out).mono ?_; rintro e w1 ⟨rfl, rfl⟩
  go_wp2_with fail
  go_end0
  exact ⟨rfl, rfl⟩
set_option maxRecDepth 100000 in
set_option maxHeartbeats 2000000 in
theorem crashN {w : World} {v : Option Addr} (h : NoD w v) (a b : Value) : Calls Try.prog 37 #[.pointer v, a, b] w fun e w' => e = .returned (.tuple #[]) ∧ w = w' := by
  have H := Lib.hid h
  clear h
  go_enter Try.func37, Try.ntmps37
  go_wp2_with fail
  refine (madeN H.out).mono ?_; rintro e w1 ⟨rfl, rfl⟩
  go_wp2_with fail
  refine bodyPost_ret (results_none rfl _ _ _) rfl ?_
  exact ⟨rfl, rfl⟩
set_option maxRecDepth 100000 in
set_option maxHeartbeats 2000000 in
theorem listN {w : World} {v : Option Addr} (h : NoD w v) : Calls Try.prog 31 #[.pointer v] w fun e w' => e = .returned (.slice none 0 0) ∧ w = w' := by
  have H := Lib.hid h
  clear h
  go_enter Try.func31, Try.ntmps31
  go_wp2_with fail
  refine (madeN H.out).mono ?_; rintro e w1 ⟨rfl, rfl⟩
  go_wp2_with fail
  go_ret
  exact ⟨rfl, rfl⟩
set_option maxRecDepth 100000 in
set_option maxHeartbeats 2000000 in
theorem usedN {w : World} {v : Option Addr} (h : NoD w v) : Calls Try.prog 30 #[.pointer v] w fun e w' => e = .returned (.int .i64 0) ∧ w = w' := by
  have H := Lib.hid h
  clear h
  go_enter Try.func30, Try.ntmps30
  go_wp2_with fail
  refine (madeN H.out).mono ?_; rintro e w1 ⟨rfl, rfl⟩
  go_wp2_with fail
  go_ret
  exact ⟨rfl, rfl⟩
set_option maxRecDepth 100000 in
set_option maxHeartbeats 2000000 in
theorem downN {w : World} {v : Option Addr} (h : NoD w v) : Calls Try.prog 52 #[.pointer v] w fun e w' => e = .returned (.bool false) ∧ w = w' := by
  have H := Lib.hid h
  clear h
  go_enter Try.func52, Try.ntmps52
  go_wp2_with fail
  refine (litN H.out).mono ?_; rintro e w1 ⟨rfl, rfl⟩
  go_wp2_with fail
  go_ret
  exact ⟨rfl, rfl⟩
set_option maxRecDepth 100000 in
set_option maxHeartbeats 2000000 in
theorem ofN {w : World} {v : Option Addr} (h : NoD w v) (s : ByteArray) (f : Value) (N : FuncId) (cap : Array Value) : Calls Try.prog 88 #[.pointer v, .string s, f, .func (.func N) #[] cap] w fun e w' => e = .returned (.int .i64 1) ∧ Below w.heap.size w w' := by
  have H := Lib.hid h
  clear h
  have hb := below_alloc1 w (.cells #[.func (.func N) #[] cap] 56)
  have HB := Lib.hid hb
  have H2 := Lib.hid (H.out.below hb)
  clear hb
  go_enter Try.func88, Try.ntmps88
  go_wp2_with fail
  refine (litN H2.out).mono ?_; rintro e w1 ⟨rfl, rfl⟩
  go_wp2_with fail
  go_ret
  exact ⟨rfl, HB.out⟩
set_option maxRecDepth 100000 in
set_option maxHeartbeats 2000000 in
theorem syncN {w : World} {v : Option Addr} (h : NoD w v) (s : ByteArray) : Calls Try.prog 34 #[.pointer v, .string s] w fun e w' => e = .returned (.int .i64 1) ∧ Below w.heap.size w w' := by
  have H := Lib.hid h
  clear h
  have hb := below_alloc1 w (.cells #[.pointer v] 34)
  have HB := Lib.hid hb
  have H2 := Lib.hid (H.out.below hb)
  clear hb
  have hmf : ∀ (fn : Fn) (first cap : Array Value) (w : World), (Instr.makeFunc fn first cap).run Try.prog w = .ok (.func fn first cap) w := fun _ _ _ _ => rfl
  go_enter Try.func34, Try.ntmps34
  go_wp2_with fail
  refine (ofN H2.out _ _ _ _).mono ?_; rintro e w1 ⟨rfl, hb1⟩
  have HB1 := Lib.hid (HB.out.trans (hb1.mono HB.out.size))
  clear hb1
  go_wp2_with fail
  go_ret
  exact ⟨rfl, HB1.out⟩
set_option maxRecDepth 100000 in
set_option maxHeartbeats 2000000 in
theorem removeN {w : World} {v : Option Addr} (h : NoD w v) (s : ByteArray) : Calls Try.prog 42 #[.pointer v, .string s] w fun e w' => e = .returned (.int .i64 1) ∧ Below w.heap.size w w' := by
  have H := Lib.hid h
  clear h
  have hb := below_alloc1 w (.cells #[.pointer v] 34)
  have HB := Lib.hid hb
  have H2 := Lib.hid (H.out.below hb)
  clear hb
  have hmf : ∀ (fn : Fn) (first cap : Array Value) (w : World), (Instr.makeFunc fn first cap).run Try.prog w = .ok (.func fn first cap) w := fun _ _ _ _ => rfl
  go_enter Try.func42, Try.ntmps42
  go_wp2_with fail
  refine (ofN H2.out _ _ _ _).mono ?_; rintro e w1 ⟨rfl, hb1⟩
  have HB1 := Lib.hid (HB.out.trans (hb1.mono HB.out.size))
  clear hb1
  go_wp2_with fail
  go_ret
  exact ⟨rfl, HB1.out⟩
set_option maxRecDepth 100000 in
set_option maxHeartbeats 2000000 in
theorem renameN {w : World} {v : Option Addr} (h : NoD w v) (s t : ByteArray) : Calls Try.prog 36 #[.pointer v, .string s, .string t] w fun e w' => e = .returned (.int .i64 1) ∧ Below w.heap.size w w' := by
  have H := Lib.hid h
  clear h
  have hb : Below w.heap.size w ((w.alloc (.cells #[.pointer v] 34)).alloc (.cells #[.string t] 9)) := (below_alloc1 _ _).alloc (by first | (simp; done) | (simp; omega)) _
  have HB := Lib.hid hb
  have H2 := Lib.hid (H.out.below hb)
  clear hb
  have hmf : ∀ (fn : Fn) (first cap : Array Value) (w : World), (Instr.makeFunc fn first cap).run Try.prog w = .ok (.func fn first cap) w := fun _ _ _ _ => rfl
  go_enter Try.func36, Try.ntmps36
  go_wp2_with fail
  refine (ofN H2.out _ _ _ _).mono ?_; rintro e w1 ⟨rfl, hb1⟩
  have HB1 := Lib.hid (HB.out.trans (hb1.mono HB.out.size))
  clear hb1
  go_wp2_with fail
  go_ret
  exact ⟨rfl, HB1.out⟩
set_option maxRecDepth 100000 in
set_option maxHeartbeats 2000000 in
theorem cutN {w : World} {v : Option Addr} (h : NoD w v) (s : ByteArray) (n : Int) : Calls Try.prog 43 #[.pointer v, .string s, .int .i64 n] w fun e w' => e = .returned (.int .i64 1) ∧ Below w.heap.size w w' := by
  have H := Lib.hid h
  clear h
  have hb : Below w.heap.size w ((w.alloc (.cells #[.pointer v] 34)).alloc (.cells #[.int .i64 n] 3)) := (below_alloc1 _ _).alloc (by first | (simp; done) | (simp; omega)) _
  have HB := Lib.hid hb
  have H2 := Lib.hid (H.out.below hb)
  clear hb
  have hmf : ∀ (fn : Fn) (first cap : Array Value) (w : World), (Instr.makeFunc fn first cap).run Try.prog w = .ok (.func fn first cap) w := fun _ _ _ _ => rfl
  go_enter Try.func43, Try.ntmps43
  go_wp2_with fail
  refine (ofN H2.out _ _ _ _).mono ?_; rintro e w1 ⟨rfl, hb1⟩
  have HB1 := Lib.hid (HB.out.trans (hb1.mono HB.out.size))
  clear hb1
  go_wp2_with fail
  go_ret
  exact ⟨rfl, HB1.out⟩
set_option maxRecDepth 100000 in
set_option maxHeartbeats 2000000 in
theorem appendN {w : World} {v : Option Addr} (h : NoD w v) (s : ByteArray) (B : Option Addr) (n c : Nat) : Calls Try.prog 33 #[.pointer v, .string s, .slice B n c] w fun e w' => e = .returned (.int .i64 1) ∧ Below w.heap.size w w' := by
  have H := Lib.hid h
  clear h
  have hb : Below w.heap.size w (((w.alloc (.cells #[.pointer v] 34)).alloc (.cells #[.string s] 9)).alloc (.cells #[.slice B n c] 22)) := ((below_alloc1 _ _).alloc (by first | (simp; done) | (simp; omega)) _).alloc (by first | (simp; done) | (simp; omega)) _
  have HB := Lib.hid hb
  have H2 := Lib.hid (H.out.below hb)
  clear hb
  have hmf : ∀ (fn : Fn) (first cap : Array Value) (w : World), (Instr.makeFunc fn first cap).run Try.prog w = .ok (.func fn first cap) w := fun _ _ _ _ => rfl
  go_enter Try.func33, Try.ntmps33
  go_wp2_with fail
  refine (litN H2.out).mono ?_; rintro e w1 ⟨rfl, rfl⟩
  go_wp2_with fail
  go_ret
  exact ⟨rfl, HB.out⟩
set_option maxRecDepth 100000 in
set_option maxHeartbeats 2000000 in
theorem lookN {w : World} {v : Option Addr} (h : NoD w v) (s : ByteArray) : Calls Try.prog 99 #[.pointer v, .string s] w fun e w' => e = .returned (.agg #[.string { data := #[] }, .slice none 0 0, .int .i64 0]) ∧ Below w.heap.size w w' := by
  have hown := new_own w [.string { data := #[] }, .slice none 0 0, .int .i64 0] 117 3 rfl (by unfold maxLen; omega)
  have hb := below_alloc1 w (.cells #[.string { data := #[] }, .slice none 0 0, .int .i64 0] 117)
  have H2 := Lib.hid (h.below hb)
  have HB := Lib.hid hb
  obtain ⟨W1, hW1⟩ : ∃ W1, W1 = w.alloc (.cells #[.string { data := #[] }, .slice none 0 0, .int .i64 0] 117) := ⟨_, rfl⟩
  have hT : (w.alloc (.cells [Value.string { data := #[] }, .slice none 0 0, .int .i64 0].toArray 117)) = W1 := hW1.symm
  rw [hT] at hown
  rw [← hW1] at H2 HB
  have HW1 := Lib.hid hW1
  have k0 := World.ownsRow.cellAt hown 0 (by omega)
  have k1 := World.ownsRow.cellAt hown 1 (by omega)
  have k2 := World.ownsRow.cellAt hown 2 (by omega)
  simp only [List.getElem?_cons_zero, List.getElem?_cons_succ] at k0 k1 k2
  have f0 := World.ownsRow.frozenAt hown 0
  have f1 := World.ownsRow.frozenAt hown 1
  have f2 := World.ownsRow.frozenAt hown 2
  have Hst := Lib.hid (stored3 hown (.string { data := #[] }) (.slice none 0 0) (.int .i64 0))
  clear h hb hW1 hT hown
  go_enter Try.func99, Try.ntmps99
  go_upto_region 1 with fail
  rw [← HW1.out]
  go_wp2_with fail
  refine (madeN H2.out).mono ?_; rintro e w1 ⟨rfl, rfl⟩
  go_wp2_with fail
  refine bodyPost_ret (results_cellD rfl _ _ _ ⟨w.heap.size, 0, none⟩ rfl _ (load_ownD Hst.out.1)) rfl ?_
  exact ⟨rfl, HB.out.grown Hst.out.2 HB.out.size (fun k hk => by cases hk; exact Nat.le_refl _)⟩
set_option maxRecDepth 100000 in
set_option maxHeartbeats 2000000 in
theorem sizeN {w : World} {v : Option Addr} (h : NoD w v) (s : ByteArray) : Calls Try.prog 45 #[.pointer v, .string s] w fun e w' => e = .returned (.int .i64 0) ∧ Below w.heap.size w w' := by
  have hfd : ∀ (a b d : Value) (W : World), (Instr.field 117 (.agg #[a, b, d]) 1).run Try.prog W = .ok b W := fun a b d W => by first | rfl | kernel_rfl | simp [Instr.field]
  go_enter Try.func45, Try.ntmps45
  go_wp2_with fail
  refine (lookN h s).mono ?_; rintro x w1 ⟨rfl, hb⟩
  have Hb := Lib.hid hb
  clear h hb
  go_wp2_with fail
  go_ret
  exact ⟨rfl, Hb.out⟩
set_option maxRecDepth 100000 in
set_option maxHeartbeats 2000000 in
theorem syncedN {w : World} {v : Option Addr} (h : NoD w v) (s : ByteArray) : Calls Try.prog 48 #[.pointer v, .string s] w fun e w' => e = .returned (.int .i64 0) ∧ Below w.heap.size w w' := by
  have hfd : ∀ (a b d : Value) (W : World), (Instr.field 117 (.agg #[a, b, d]) 2).run Try.prog W = .ok d W := fun a b d W => by first | rfl | kernel_rfl | simp [Instr.field]
  go_enter Try.func48, Try.ntmps48
  go_wp2_with fail
  refine (lookN h s).mono ?_; rintro x w1 ⟨rfl, hb⟩
  have Hb := Lib.hid hb
  clear h hb
  go_wp2_with fail
  go_ret
  exact ⟨rfl, Hb.out⟩
set_option maxRecDepth 100000 in
set_option maxHeartbeats 4000000 in
/-- op: of 0 to 6 -/
theorem doesN {w : World} {v : Option Addr} (h : NoD w v) (d : Ded) {o : Int} (ho : 0 ≤ o ∧ o ≤ 6) : Calls Try.prog 47 #[.pointer v, .agg #[.int .u8 o, .string (bstr d.a), .string (bstr d.t2), .slice d.bA d.b.length d.bc, .int .i64 d.n, .slice d.kA d.ks.length d.kc, .slice d.tA d.ts.length d.tc]] w fun e w' => e = .returned (.int .i64 1) ∧ Below w.heap.size w w' := by
  have hb := below_alloc1 w (.cells #[.int .u8 o, .string (bstr d.a), .string (bstr d.t2), .slice d.bA d.b.length d.bc, .int .i64 d.n, .slice d.kA d.ks.length d.kc, .slice d.tA d.ts.length d.tc] 70)
  have H := Lib.hid (h.below hb)
  have HB := Lib.hid hb
  clear h hb
  go_enter Try.func47, Try.ntmps47
  obtain h | h | h | h | h | h | h : o = 0 ∨ o = 1 ∨ o = 2 ∨ o = 3 ∨ o = 4 ∨ o = 5 ∨ o = 6 := by omega
  · subst h
    go_wp2_with fail
    refine (appendN H.out _ _ _ _).mono ?_; rintro e w1 ⟨rfl, hb1⟩
    have HB1 := Lib.hid (HB.out.trans (hb1.mono HB.out.size))
    clear hb1
    go_wp2_with fail
    go_ret
    exact ⟨rfl, HB1.out⟩
  · subst h
    go_wp2_with fail
    refine (appendN H.out _ _ _ _).mono ?_; rintro e w1 ⟨rfl, hb1⟩
    have HB1 := Lib.hid (HB.out.trans (hb1.mono HB.out.size))
    clear hb1
    go_wp2_with fail
    go_ret
    exact ⟨rfl, HB1.out⟩
  · subst h
    go_wp2_with fail
    refine (appendN H.out _ _ _ _).mono ?_; rintro e w1 ⟨rfl, hb1⟩
    have HB1 := Lib.hid (HB.out.trans (hb1.mono HB.out.size))
    clear hb1
    go_wp2_with fail
    go_ret
    exact ⟨rfl, HB1.out⟩
  · subst h
    go_wp2_with fail
    refine (syncN H.out _).mono ?_; rintro e w1 ⟨rfl, hb1⟩
    have HB1 := Lib.hid (HB.out.trans (hb1.mono HB.out.size))
    clear hb1
    go_wp2_with fail
    go_ret
    exact ⟨rfl, HB1.out⟩
  · subst h
    go_wp2_with fail
    refine (renameN H.out _ _).mono ?_; rintro e w1 ⟨rfl, hb1⟩
    have HB1 := Lib.hid (HB.out.trans (hb1.mono HB.out.size))
    clear hb1
    go_wp2_with fail
    go_ret
    exact ⟨rfl, HB1.out⟩
  · subst h
    go_wp2_with fail
    refine (removeN H.out _).mono ?_; rintro e w1 ⟨rfl, hb1⟩
    have HB1 := Lib.hid (HB.out.trans (hb1.mono HB.out.size))
    clear hb1
    go_wp2_with fail
    go_ret
    exact ⟨rfl, HB1.out⟩
  · subst h
    go_wp2_with fail
    refine (cutN H.out _ _).mono ?_; rintro e w1 ⟨rfl, hb1⟩
    have HB1 := Lib.hid (HB.out.trans (hb1.mono HB.out.size))
    clear hb1
    go_wp2_with fail
    go_ret
    exact ⟨rfl, HB1.out⟩
end Go.Proofs.Ytemegkapmgcffaa
