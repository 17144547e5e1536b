import Derived.Test.YtcidifmikcnkcaaPureRing
import Derived.Laws.IdiomRangeMap
/- RingNone: rings that New did not make. -/
namespace Go.Proofs.Ytcidifmikcnkcaa
open Go.RowKit Go.Maps Go.WideShapes Go.WideMaps Go.Sort
set_option linter.unusedSimpArgs false
set_option linter.unusedVariables false

def NoR (w : World) (p : Option Addr) : Prop := p = none ∨ ∃ b, p = some ⟨b, 0, none⟩ ∧ w.cell? ⟨b, 0, none⟩ = some (.int .i64 0) ∧ w.cell? ⟨b, 1, none⟩ = some (.map none)
theorem NoR.below {w w' : World} {p : Option Addr} (h : NoR w p) (hb : Below w.heap.size w w') : NoR w' p := by
  rcases h with h | ⟨b, h1, h2, h3⟩
  · exact .inl h
  · have k := hb.block b (World.block_lt_of_cell? _ _ h2)
    exact .inr ⟨b, h1, (World.cell?_of_block k).trans h2, (World.cell?_of_block k).trans h3⟩
theorem look_nil (w : World) (nm : Nm) (hn : nm.length ≤ maxLen) : (Instr.lookup 58 (.map none) (.string (bstr nm)) false).run Try.prog w = .ok (.pointer none) w := by
  simp [Instr.lookup, run_underlying Try.underlying58, lawR.check w _ (keyR nm hn), zeroP, Instr.findKey, Instr.findNow, Result.andThen]
set_option maxRecDepth 100000 in
set_option maxHeartbeats 2000000 in
theorem of_no {W : World} {p : Option Addr} (h : NoR W p) (nm : Nm) (hn : nm.length ≤ maxLen) :
    Calls Try.prog 40 #[.pointer p, .string (bstr nm)] W fun e w' => ∃ b, e = .returned (.pointer (some ⟨b, 0, none⟩)) ∧ QIs w' W.heap.size b ⟨0, []⟩ none 0 0 0 [] ∧ Below W.heap.size W w' := by
  have fin : QIs (W.alloc (.cells #[.int .i64 0, .slice none 0 0, .int .i64 0, .int .i64 0] 88)) W.heap.size W.heap.size ⟨0, []⟩ none 0 0 0 [] :=
    ⟨new_own W [.int .i64 0, .slice none 0 0, .int .i64 0, .int .i64 0] 88 4 rfl (by unfold maxLen; omega), World.ownsRow_nil _ _ _ _, by simp, by simp, by simp, .inr ⟨rfl, rfl⟩, by simp⟩
  have Hfin := Lib.hid fin
  clear fin
  have hlk := fun w => look_nil w nm hn
  rcases h with rfl | ⟨b, rfl, c0, c1⟩
  · go_enter Try.func40, Try.ntmps40
    go_wp2_with fail
    go_ret
    exact ⟨_, rfl, Hfin.out, below_alloc1 _ _⟩
  · go_enter Try.func40, Try.ntmps40
    go_wp2_with fail
    refine (right_any nm _).mono ?_; rintro e w2 ⟨rfl, rfl⟩
    cases hnm : namedB nm with
    | true =>
      go_wp2_with fail
      go_ret
      exact ⟨_, rfl, Hfin.out, below_alloc1 _ _⟩
    | false =>
      go_wp2_with fail
      go_ret
      exact ⟨_, rfl, Hfin.out, below_alloc1 _ _⟩
theorem index_no {base c : Nat} {A : Option Addr} {w : World} (h : Own base 3 1 w A 0 c []) (x : Int) :
    Calls Try.prog 49 #[.slice A 0 c, .int .i64 x] w fun e w' => e = .returned (.int .i64 (-1)) ∧ w' = w :=
  (index_any (l := []) h (by omega) x).mono fun e w' ⟨h1, h2⟩ => ⟨h1, h2⟩
section
variable {W : World} {p : Option Addr}
set_option maxRecDepth 100000 in
set_option maxHeartbeats 2000000 in
theorem Look_no (h : NoR W p) (nm : Nm) (hn : nm.length ≤ maxLen) :
    Calls Try.prog 31 #[.pointer p, .string (bstr nm)] W fun e w' => e = .returned (.tuple #[.int .i64 0, .bool false]) ∧ Below W.heap.size W w' := by
  go_enter Try.func31, Try.ntmps31
  go_wp2_with fail
  refine (of_no h nm hn).mono ?_; rintro e w2 ⟨b, rfl, q2, b2⟩
  obtain ⟨d0, d1, d2, d3⟩ := q2.cell
  simp only [List.length_nil] at d3
  go_wp2_with fail
  go_ret2
  exact ⟨rfl, b2⟩
set_option maxRecDepth 100000 in
set_option maxHeartbeats 2000000 in
theorem Take_no (h : NoR W p) (nm : Nm) (hn : nm.length ≤ maxLen) :
    Calls Try.prog 23 #[.pointer p, .string (bstr nm)] W fun e w' => e = .returned (.tuple #[.int .i64 0, .bool false]) ∧ Below W.heap.size W w' := by
  go_enter Try.func23, Try.ntmps23
  go_wp2_with fail
  refine (Look_no h nm hn).mono ?_; rintro e w2 ⟨rfl, b2⟩
  go_wp2_with fail
  go_ret2
  exact ⟨rfl, b2⟩
set_option maxRecDepth 100000 in
set_option maxHeartbeats 2000000 in
theorem Len_no (h : NoR W p) (nm : Nm) (hn : nm.length ≤ maxLen) :
    Calls Try.prog 18 #[.pointer p, .string (bstr nm)] W fun e w' => e = .returned (.int .i64 0) ∧ Below W.heap.size W w' := by
  go_enter Try.func18, Try.ntmps18
  go_wp2_with fail
  refine (of_no h nm hn).mono ?_; rintro e w2 ⟨b, rfl, q2, b2⟩
  obtain ⟨d0, d1, d2, d3⟩ := q2.cell
  simp only [List.length_nil] at d3
  go_wp2_with fail
  go_ret
  exact ⟨rfl, b2⟩
set_option maxRecDepth 100000 in
set_option maxHeartbeats 2000000 in
theorem Room_no (h : NoR W p) (nm : Nm) (hn : nm.length ≤ maxLen) :
    Calls Try.prog 14 #[.pointer p, .string (bstr nm)] W fun e w' => e = .returned (.int .i64 0) ∧ Below W.heap.size W w' := by
  go_enter Try.func14, Try.ntmps14
  go_wp2_with fail
  refine (of_no h nm hn).mono ?_; rintro e w2 ⟨b, rfl, q2, b2⟩
  obtain ⟨d0, d1, d2, d3⟩ := q2.cell
  have d3 : w2.cell? ⟨b, 3, none⟩ = some (.int .i64 0) := d3
  have hw : IntKind.i64.wrap (0 - 0) = 0 := rfl
  clear q2
  go_upto_region 2 with fail
  go_quiet (fail)
  go_wp2_with fail
  go_ret
  exact ⟨rfl, below_drewN b2 _⟩
set_option maxRecDepth 100000 in
set_option maxHeartbeats 2000000 in
theorem All_no (h : NoR W p) (nm : Nm) (hn : nm.length ≤ maxLen) :
    Calls Try.prog 32 #[.pointer p, .string (bstr nm)] W fun e w' => ∃ A' c', e = .returned (.slice A' 0 c') ∧ Own W.heap.size 3 1 w' A' 0 c' [] ∧ Below W.heap.size W w' := by
  have hmf : ∀ (fn : Fn) (first cap : Array Value) (w : World), (Instr.makeFunc fn first cap).run Try.prog w = .ok (.func fn first cap) w := fun _ _ _ _ => rfl
  go_enter Try.func32, Try.ntmps32
  go_wp2_with fail
  refine (of_no h nm hn).mono ?_; rintro e w2 ⟨b, rfl, q2, b2⟩
  go_wp2_with fail
  refine (qall_any q2).mono ?_; rintro e w3 ⟨A3, c3, rfl, o3, hz, hb3⟩
  clear hz
  go_wp2_with fail
  go_ret
  exact ⟨A3, c3, rfl, Own.lower o3 b2.size, b2.trans (hb3.mono b2.size)⟩
set_option maxRecDepth 100000 in
set_option maxHeartbeats 2000000 in
theorem Drop_no (h : NoR W p) (nm : Nm) (hn : nm.length ≤ maxLen) (x : Int) :
    Calls Try.prog 25 #[.pointer p, .string (bstr nm), .int .i64 x] W fun e w' => e = .returned (.bool false) ∧ Below W.heap.size W w' := by
  go_enter Try.func25, Try.ntmps25
  go_wp2_with fail
  refine (of_no h nm hn).mono ?_; rintro e w2 ⟨b, rfl, q2, b2⟩
  have h2 := h.below b2
  clear h q2
  go_wp2_with fail
  refine (All_no h2 nm hn).mono ?_; rintro e w3 ⟨A3, c3, rfl, o3, b3⟩
  have b4 := b2.trans (b3.mono b2.size)
  clear h2 b2 b3
  go_wp2_with fail
  refine (index_no o3 x).mono ?_; rintro e w4 ⟨rfl, rfl⟩
  go_wp2_with fail
  go_ret
  exact ⟨rfl, b4⟩
set_option maxRecDepth 100000 in
set_option maxHeartbeats 2000000 in
theorem Put_no (h : NoR W p) (nm : Nm) (x : Int) :
    Calls Try.prog 12 #[.pointer p, .string (bstr nm), .int .i64 x] W fun e w' => e = .returned (.int .i64 1) ∧ Below W.heap.size W w' := by
  have hnil := fun w (r : Option Nat) => run_eql_map_nil (P := Try.prog) (w := w) 58 _ _ r Try.underlying58
  rcases h with rfl | ⟨b, rfl, c0, c1⟩
  · go_enter Try.func12, Try.ntmps12
    go_wp2_with fail
    go_ret
    exact ⟨rfl, Below.refl _ _⟩
  · go_enter Try.func12, Try.ntmps12
    go_wp2_with fail
    go_ret
    exact ⟨rfl, Below.refl _ _⟩
set_option maxRecDepth 100000 in
set_option maxHeartbeats 2000000 in
theorem Cap_no (h : NoR W p) (nm : Nm) (x : Int) :
    Calls Try.prog 13 #[.pointer p, .string (bstr nm), .int .i64 x] W fun e w' => e = .returned (.int .i64 1) ∧ Below W.heap.size W w' := by
  have hnil := fun w (r : Option Nat) => run_eql_map_nil (P := Try.prog) (w := w) 58 _ _ r Try.underlying58
  rcases h with rfl | ⟨b, rfl, c0, c1⟩
  · go_enter Try.func13, Try.ntmps13
    go_wp2_with fail
    go_ret
    exact ⟨rfl, Below.refl _ _⟩
  · go_enter Try.func13, Try.ntmps13
    go_wp2_with fail
    go_ret
    exact ⟨rfl, Below.refl _ _⟩
set_option maxRecDepth 100000 in
set_option maxHeartbeats 2000000 in
theorem Names_no (h : NoR W p) :
    Calls Try.prog 16 #[.pointer p] W fun e w' => ∃ A c, e = .returned (.slice A 0 c) ∧ Below W.heap.size W w' := by
  have hrg := fun w => run_range_nilMap (P := Try.prog) w 58 _ _ Try.underlying58
  have hnx : ∀ (w : World) (ty : TypeId), (Instr.next (.pointer (some ⟨w.heap.size, 0, none⟩)) false ty).run Try.prog (w.alloc (.mapIter none 0 #[] 0)) = _ := fun w ty => run_next_nilMap w ty 0 0 #[]
  have bn := below_alloc1 W (.mapIter none 0 #[] 0)
  rcases h with rfl | ⟨b, rfl, c0, c1⟩
  · go_enter Try.func16, Try.ntmps16
    go_wp2_with fail
    go_ret
    exact ⟨_, _, rfl, Below.refl _ _⟩
  · go_enter Try.func16, Try.ntmps16
    go_wp2_with fail
    go_loopw [3] (fun s3 wx => s3 = .slice none 0 0 ∧ W.alloc (.mapIter none 0 #[] 0) = wx) (fun _ _ => 0)
    case atStart => exact ⟨rfl, rfl⟩
    case round =>
      obtain ⟨rfl, rfl⟩ := hrel
      go_wp2_with fail
      refine (Try.slices_Sort_string_none none 0 _).mono ?_; rintro e w9 ⟨rfl, rfl⟩
      go_wp2_with fail
      go_ret
      exact ⟨_, _, rfl, bn⟩
end
set_option maxRecDepth 100000 in
set_option maxHeartbeats 8000000 in
theorem walk_none (nm : Nm) (hn : nm.length ≤ maxLen) (x : Int) (W : World) :
    Calls Try.prog 5 #[.string (bstr nm), .int .i64 x] W fun e w' => e = .returned (.bool true) ∧ Below W.heap.size W w' := by
  have b1 := below_alloc1 W (.cells #[.int .i64 0, .map none] 60)
  obtain ⟨W1, hW1⟩ : ∃ W1, W1 = W.alloc (.cells #[.int .i64 0, .map none] 60) := ⟨_, rfl⟩
  have s1 := sl_cells W [.int .i64 0, .map none] 60
  have b2 := below_alloc1 W1 (.cells #[.pointer none, .pointer (some ⟨W.heap.size, 0, none⟩)] 23)
  have s2 := sl_cells W1 [.pointer none, .pointer (some ⟨W.heap.size, 0, none⟩)] 23
  have hsz1 : W1.heap.size = W.heap.size + 1 := by rw [hW1]; simp
  rw [← hW1] at b1 s1
  have zz : ∀ j u, [Value.int .i64 0, .map none][j]? = some u → W1.cell? ⟨W.heap.size, j, none⟩ = some u := by
    intro j u hj
    obtain ⟨a, h1, h2⟩ := s1.cells j u hj
    cases h1
    rwa [add_plain] at h2
  have N1 : NoR W1 (some ⟨W.heap.size, 0, none⟩) := .inr ⟨_, rfl, zz 0 _ rfl, zz 1 _ rfl⟩
  have N2 := N1.below b2
  have N0 : NoR (W1.alloc (.cells #[.pointer none, .pointer (some ⟨W.heap.size, 0, none⟩)] 23)) none := .inl rfl
  have bA := b1.trans (b2.mono b1.size)
  obtain ⟨W2, hW2⟩ : ∃ W2, W2 = W1.alloc (.cells #[.pointer none, .pointer (some ⟨W.heap.size, 0, none⟩)] 23) := ⟨_, rfl⟩
  rw [← hW2] at s2 N2 N0 bA
  have HF : Hid (∀ wx i, Below W2.heap.size W2 wx → i < 2 → ∃ p, wx.cell? ⟨W1.heap.size, i, none⟩ = some (.pointer p) ∧ NoR wx p) := Lib.hid (by
    intro wx i hb hi
    have key : ∀ j u, [Value.pointer none, .pointer (some ⟨W.heap.size, 0, none⟩)][j]? = some u → wx.cell? ⟨W1.heap.size, j, none⟩ = some u := by
      intro j u hj
      obtain ⟨a, h1, h2⟩ := (s2.below hb).cells j u hj
      cases h1
      rwa [add_plain] at h2
    have : i = 0 ∨ i = 1 := by omega
    rcases this with rfl | rfl
    · exact ⟨_, key 0 _ rfl, N0.below hb⟩
    · exact ⟨_, key 1 _ rfl, N2.below hb⟩)
  clear s1 s2 N1 N2 N0 zz b1 b2
  go_enter Try.func5, Try.ntmps5
  go_upto_block 0 with fail
  subst hW1
  rw [← hW2]
  rw [hsz1] at HF
  clear hW2 hsz1
  go_wp2_with fail
  go_loopw [17] (fun s17 wx => ∃ i : Nat, i ≤ 2 ∧ s17 = .int .i64 (i : Int) ∧ Below W2.heap.size W2 wx) (fun iv _ => 2 - (intOf iv).toNat)
  case atStart => exact ⟨0, by omega, rfl, Below.refl _ _⟩
  case round =>
    obtain ⟨i, hi, rfl, bx⟩ := hrel
    by_cases hi2 : i < 2
    · obtain ⟨p, hc, hp⟩ := HF.out _ _ bx hi2
      have hin : (0 : Int) ≤ (i : Int) ∧ (i : Int) < 2 := by omega
      go_wp2_with fail
      refine (Take_no hp nm hn).mono ?_; rintro e w0 ⟨rfl, c0⟩
      have p0 := hp.below c0
      have e0 := bx.trans (c0.mono bx.size)
      clear hp bx c0
      go_wp2_with fail
      refine (Look_no p0 nm hn).mono ?_; rintro e w1 ⟨rfl, c1⟩
      have p1 := p0.below c1
      have e1 := e0.trans (c1.mono e0.size)
      clear p0 e0 c1
      go_wp2_with fail
      refine (Put_no p1 nm x).mono ?_; rintro e w2 ⟨rfl, c2⟩
      have p2 := p1.below c2
      have e2 := e1.trans (c2.mono e1.size)
      clear p1 e1 c2
      go_wp2_with fail
      refine (Cap_no p2 nm x).mono ?_; rintro e w3 ⟨rfl, c3⟩
      have p3 := p2.below c3
      have e3 := e2.trans (c3.mono e2.size)
      clear p2 e2 c3
      go_wp2_with fail
      refine (Drop_no p3 nm hn x).mono ?_; rintro e w4 ⟨rfl, c4⟩
      have p4 := p3.below c4
      have e4 := e3.trans (c4.mono e3.size)
      clear p3 e3 c4
      go_wp2_with fail
      refine (Len_no p4 nm hn).mono ?_; rintro e w5 ⟨rfl, c5⟩
      have p5 := p4.below c5
      have e5 := e4.trans (c5.mono e4.size)
      clear p4 e4 c5
      go_wp2_with fail
      refine (Room_no p5 nm hn).mono ?_; rintro e w6 ⟨rfl, c6⟩
      have p6 := p5.below c6
      have e6 := e5.trans (c6.mono e5.size)
      clear p5 e5 c6
      go_wp2_with fail
      refine (Names_no p6).mono ?_; rintro e w7 ⟨A7, d7, rfl, c7⟩
      have p7 := p6.below c7
      have e7 := e6.trans (c7.mono e6.size)
      clear p6 e6 c7
      go_wp2_with fail
      refine (All_no p7 nm hn).mono ?_; rintro e w8 ⟨A8, d8, rfl, _, c8⟩
      have p8 := p7.below c8
      have e8 := e7.trans (c8.mono e7.size)
      clear p7 e7 c8
      go_wp2_with fail
      go_roundw
      case rel => exact ⟨i + 1, by omega, by go_num, e8⟩
      case measure => simp [intOf]; omega
    · obtain rfl : i = 2 := by omega
      go_wp2_with fail
      refine (awake8_any _).mono ?_; rintro e w11 ⟨rfl, c11⟩
      go_wp2_with fail
      go_ret
      have bB := bA.trans (bx.mono bA.size)
      exact ⟨rfl, bB.trans (c11.mono bB.size)⟩
theorem walk_none2 (s : ByteArray) (hs : s.size ≤ maxLen) (x : Int) (W : World) :
    Calls Try.prog 5 #[.string s, .int .i64 x] W fun e w' => e = .returned (.bool true) ∧ Below W.heap.size W w' := by
  have h := walk_none s.data.toList (by simpa using hs) x W
  rwa [← bstr_of s] at h
end Go.Proofs.Ytcidifmikcnkcaa
