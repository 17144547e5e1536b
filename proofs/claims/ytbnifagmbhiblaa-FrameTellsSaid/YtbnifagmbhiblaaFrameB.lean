import Derived.Test.YtbnifagmbhiblaaFrameA
namespace Go.Proofs.Ytbnifagmbhiblaa
open Go.RowKit
set_option linter.unusedSimpArgs false
set_option linter.unusedVariables false

/-- a part that is put behind -/
structure Part where
  A : Option Addr
  n : Nat
  c : Nat
  l : List UInt8
def Part.v (q : Part) : Value := .slice q.A q.n q.c

set_option maxHeartbeats 400000 in
theorem joined_any (base : Nat) (A : Option Addr) (n0 c : Nat) (l : List UInt8) (parts : List Part) (P : Option Addr) (m d : Nat) (w : World) (ha : App base 5 1 w A n0 c (bytesV l)) (hb : base ≤ w.heap.size)
    (hp : Sl w 1 P m d (parts.map Part.v)) (hps : ∀ ad, P = some ad → some ad.block ≠ rowOf base A)
    (hq : ∀ q ∈ parts, Sl w 1 q.A q.n q.c (bytesV q.l) ∧ ∀ ad, q.A = some ad → some ad.block ≠ rowOf base A)
    (hl : (l ++ parts.flatMap Part.l).length ≤ 70368744175616) (hm : m ≤ 1000) :
    Calls Try.prog 60 #[.slice A n0 c, .slice P m d] w fun e w' => ∃ A' n' c', e = .returned (.slice A' n' c') ∧
      AppTo base 5 1 w w' A A' n' c' (bytesV (l ++ parts.flatMap Part.l)) := by
  have hpl : parts.length = m := by have := hp.len; simpa using this
  have Hq := Lib.hid hq
  have Hl := Lib.hid hl
  have Hpl := Lib.hid hpl
  clear hq hl hpl
  go_enter Try.func60, Try.ntmps60
  go_wp2_with fail
  go_loopw [0, 9] (fun v i wr => ∃ (k : Nat) (A1 : Option Addr) (n1 c1 : Nat), k ≤ m ∧ i = .int .i64 k ∧ v = .slice A1 n1 c1 ∧
      AppTo base 5 1 w wr A A1 n1 c1 (bytesV (l ++ (parts.take k).flatMap Part.l))) (fun _ i _ => m - (intOf i).toNat)
  case atStart => exact ⟨0, A, n0, c, by omega, rfl, rfl, by simpa using AppTo.refl ha⟩
  case round =>
    obtain ⟨k, A1, n1, c1, hk, rfl, rfl, hto⟩ := hrel
    by_cases hlt : k < m
    · obtain ⟨q, hqk⟩ : ∃ q, q = parts[k]'(by rw [Hpl.out]; exact hlt) := ⟨_, rfl⟩
      have hq2 := Hq.out q (by rw [hqk]; exact List.getElem_mem _)
      obtain ⟨ad, rfl, hcell⟩ := (hp.grown hto.grown hps).cells k q.v (by rw [hqk]; simp [Hpl.out, hlt])
      have hsq := hq2.1.grown hto.grown hq2.2
      have hn1 := hto.app.sl.blen
      have hlen : n1 + q.n ≤ 70368744175616 := by
        have h1 := Hl.out
        rw [← hn1, ← hq2.1.blen]
        have e : parts = parts.take k ++ q :: parts.drop (k + 1) := by rw [hqk, List.getElem_cons_drop, List.take_append_drop]
        rw [e] at h1
        simp at h1 ⊢
        omega
      have hin : (0 : Int) ≤ (k : Int) ∧ (k : Int) < (m : Int) := by omega
      have htk : (parts.take (k + 1)).flatMap Part.l = (parts.take k).flatMap Part.l ++ q.l := by
        rw [List.take_succ_eq_append_getElem (by rw [Hpl.out]; exact hlt), List.flatMap_append, ← hqk]; simp
      have Htk := Lib.hid htk
      obtain ⟨qA, qn, qc, ql⟩ := q
      simp only [Part.v] at hcell hsq hlen htk Htk
      clear hqk hq2 hp hn1 htk
      go_wp2_with (at_builtin; refine wpList_app _ rfl _ _ 26 rfl base 5 (.int .u8 0) 1 1 Try.underlying26 infoByte rfl (by decide) A1 n1 c1 _ rfl hto.app qA qn qc (bytesV ql) rfl hsq (bytesV_one _) (by unfold maxLen; omega) (by omega) (by have := hto.grown.size; omega) ?_; intro A2 d2 w2 hat)
      go_roundw
      case rel =>
        refine ⟨k + 1, A2, _, d2, by omega, by go_num, rfl, ?_⟩
        rw [Htk.out, ← List.append_assoc, bytesV_append]
        exact hto.trans hat
      case measure => simp [intOf]; omega
    · obtain rfl : k = m := by omega
      go_wp2_with fail
      go_ret
      exact ⟨A1, n1, c1, rfl, by rw [← Hpl.out, List.take_length] at hto; exact hto⟩

theorem App.block_lt {base n c : Nat} {e : TypeId} {w : World} {a : Addr} {cs : List Value} (h : App base e 1 w (some a) n c cs) (hn : 0 < n) : a.block < w.heap.size := by
  have hs := h.sl
  obtain ⟨ad, h1, h2⟩ := hs.cells 0 (cs[0]'(by rw [hs.len]; omega)) (List.getElem?_eq_getElem _)
  cases h1
  have := World.block_lt_of_cell? w _ h2
  rwa [add_block] at this
theorem Sl.block_lt {n c : Nat} {w : World} {a : Addr} {cs : List Value} (hs : Sl w 1 (some a) n c cs) (hn : 0 < n) : a.block < w.heap.size := by
  obtain ⟨ad, h1, h2⟩ := hs.cells 0 (cs[0]'(by rw [hs.len]; omega)) (List.getElem?_eq_getElem _)
  cases h1
  have := World.block_lt_of_cell? w _ h2
  rwa [add_block] at this
theorem sl_cells (w : World) (cs : List Value) (e : TypeId) : Sl (w.alloc (.cells cs.toArray e)) 1 (some ⟨w.heap.size, 0, none⟩) cs.length cs.length cs := by
  refine ⟨fun j u hj => ⟨_, rfl, ?_⟩, by simp, Nat.le_refl _, fun h => by cases h⟩
  rw [add_plain, cell_of_row _ w.heap.size j cs.toArray e (0, 0) (heap_alloc_new w _)]
  simpa using hj

theorem crc4_length' (r : BitVec 32) : (crc4 r).length = 4 := rfl
/-- a body's frame -/
def frm (b : List UInt8) : List UInt8 := uv b.length ++ (b ++ (crc4 (crc b) ++ [165]))

set_option maxHeartbeats 400000 in
theorem put_none (A B : Option Addr) (n0 c d : Nat) (w : World) :
    Calls Try.prog 44 #[.slice A n0 c, .slice B 0 d] w fun e w' => e = .returned (.tuple #[.slice none 0 0, .int .i64 2]) ∧ w = w' := by
  go_enter Try.func44, Try.ntmps44
  go_wp2_with fail
  go_ret2
  exact ⟨rfl, rfl⟩
set_option maxHeartbeats 400000 in
theorem put_long (A B : Option Addr) (n0 c m d : Nat) (w : World) (hm : 1048576 < m) :
    Calls Try.prog 44 #[.slice A n0 c, .slice B m d] w fun e w' => e = .returned (.tuple #[.slice none 0 0, .int .i64 3]) ∧ w = w' := by
  have h0 : ((m : Int) == 0) = false := by simp; omega
  go_enter Try.func44, Try.ntmps44
  go_wp2_with fail
  go_ret2
  exact ⟨rfl, rfl⟩

set_option maxHeartbeats 1000000 in
theorem put_any (base : Nat) (A B : Option Addr) (n0 c m d : Nat) (l b : List UInt8) (w : World) (ha : App base 5 1 w A n0 c (bytesV l)) (hb : base ≤ w.heap.size)
    (hs : Sl w 1 B m d (bytesV b)) (hsep : ∀ ad, B = some ad → some ad.block ≠ rowOf base A) (hn : n0 ≤ 35184372088832) (hm0 : 0 < m) (hm : m ≤ 1048576) :
    Calls Try.prog 44 #[.slice A n0 c, .slice B m d] w fun e w' => ∃ A' n' c', e = .returned (.tuple #[.slice A' n' c', .int .i64 0]) ∧
      AppTo base 5 1 w w' A A' n' c' (bytesV (l ++ frm b)) := by
  have h0 : ((m : Int) == 0) = false := by simp; omega
  have hnl := ha.sl.blen
  have hbl := hs.blen
  go_enter Try.func44, Try.ntmps44
  go_wp2_with fail
  refine (uint_at base A n0 c l m _ w ha hb (by omega) (by omega) rfl).mono ?_; rintro e w1 ⟨A1, n1, c1, rfl, hto⟩
  have hs1 := hs.grown hto.grown hsep
  go_wp2_with fail
  refine (sum_any _ _ _ b _ hs1 (by omega)).mono ?_; rintro e w2 ⟨rfl, hsum, hb2⟩
  go_wp2_with fail
  have hn1 := hto.app.sl.blen
  rw [List.length_append] at hn1
  have hup := uv_pos m
  have hrow : ∀ k, rowOf base A1 = some k → k < w1.heap.size := by
    intro k hk
    cases A1 with
    | none => simp [rowOf] at hk
    | some a => have := hto.app.block_lt (by omega); simp [rowOf] at hk; omega
  obtain ⟨w3, hw3⟩ : ∃ w3, w3 = w2.alloc (Obj.cells #[Value.int IntKind.u8 165] 5) := ⟨_, rfl⟩
  have hsz3 : w3.heap.size = w2.heap.size + 1 := by rw [hw3]; simp
  have hb3 : Below w2.heap.size w2 w3 := by rw [hw3]; exact below_alloc1 _ _
  have h165 : Sl w3 1 (some ⟨w2.heap.size, 0, none⟩) 1 1 (bytesV [165]) := by rw [hw3]; exact sl_new w2 [165] 5 1 rfl
  rw [← hw3, ← hsz3]
  clear hw3
  obtain ⟨w4, hw4⟩ : ∃ w4, w4 = w3.alloc (Obj.cells #[Value.slice B m d, Value.slice (some ⟨w1.heap.size, 0, none⟩) 4 4, Value.slice (some ⟨w2.heap.size, 0, none⟩) 1 1] 26) := ⟨_, rfl⟩
  have hb4 : Below w3.heap.size w3 w4 := by rw [hw4]; exact below_alloc1 _ _
  have hp : Sl w4 1 (some ⟨w3.heap.size, 0, none⟩) 3 3 (([⟨B, m, d, b⟩, ⟨some ⟨w1.heap.size, 0, none⟩, 4, 4, crc4 (crc b)⟩, ⟨some ⟨w2.heap.size, 0, none⟩, 1, 1, [165]⟩] : List Part).map Part.v) := by
    rw [hw4]; exact sl_cells w3 [Value.slice B m d, Value.slice (some ⟨w1.heap.size, 0, none⟩) 4 4, Value.slice (some ⟨w2.heap.size, 0, none⟩) 1 1] 26
  rw [← hw4]
  clear hw4
  have z1 := hto.grown.size
  have z2 := hb2.size
  have z3 := hb3.size
  have hb13 : Below w1.heap.size w1 w3 := hb2.trans (hb3.mono z2)
  have hb14 : Below w1.heap.size w1 w4 := hb13.trans (hb4.mono (by omega))
  have hb24 : Below w2.heap.size w2 w4 := hb3.trans (hb4.mono z3)
  refine (joined_any base A1 n1 c1 (l ++ uv m) _ _ 3 3 w4 (hto.app.below hb14) (by have := hb14.size; omega) hp (fun ad h => by cases h; intro e; have := hrow _ e.symm; simp at this; omega) ?_ ?_ (by omega)).mono ?_
  · intro q hq
    simp only [List.mem_cons, List.not_mem_nil, or_false] at hq
    rcases hq with rfl | rfl | rfl
    · refine ⟨hs1.below hb14, fun ad h => ?_⟩
      simp only at h
      subst h
      rcases hto.lies.row (base := base) with e | e
      · rw [e]; exact hsep ad rfl
      · intro e2; have h3 := e _ e2.symm; have := hs.block_lt hm0; omega
    · refine ⟨hsum.below hb24, fun ad h => ?_⟩
      cases h; intro e; have := hrow _ e.symm; simp at this
    · refine ⟨h165.below hb4, fun ad h => ?_⟩
      cases h; intro e; have := hrow _ e.symm; simp at this; omega
  · have := uv_len_ten m (by omega)
    simp [hnl, hbl, crc4_length']
    omega
  · rintro e w5 ⟨A5, n5, c5, rfl, hat⟩
    go_wp2_with fail
    go_ret2
    refine ⟨A5, n5, c5, rfl, ?_⟩
    have h := hto.trans (hat.after hb14)
    have e : (l ++ uv m) ++ ([⟨B, m, d, b⟩, ⟨some ⟨w1.heap.size, 0, none⟩, 4, 4, crc4 (crc b)⟩, ⟨some ⟨w2.heap.size, 0, none⟩, 1, 1, [165]⟩] : List Part).flatMap Part.l = l ++ frm b := by
      simp [frm, hbl]
    rwa [e] at h
end Go.Proofs.Ytbnifagmbhiblaa
