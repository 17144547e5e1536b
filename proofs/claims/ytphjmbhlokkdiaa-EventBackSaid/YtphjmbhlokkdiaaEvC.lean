import Derived.Test.YtphjmbhlokkdiaaEvB
import Derived.Laws.IdiomStrings
namespace Go.Proofs.Ytphjmbhlokkdiaa
open Go.RowKit
set_option linter.unusedSimpArgs false
set_option linter.unusedVariables false

/-- what lay below N0, but in one row, stays -/
def Rw (N0 : Nat) (row : Option Nat) (w w' : World) : Prop := N0 ≤ w.heap.size → N0 ≤ w'.heap.size ∧ ∀ k, k < N0 → some k ≠ row → w'.heap[k]? = w.heap[k]?
theorem Rw.below {N0 : Nat} {row : Option Nat} (w w' : World) (h : Below w.heap.size w w') : Rw N0 row w w' := fun hN => ⟨Nat.le_trans hN h.size, fun k hk _ => h.block k (by omega)⟩
theorem Rw.trans {N0 : Nat} {row : Option Nat} (w w1 w2 : World) (h : Rw N0 row w w1) (k : Rw N0 row w1 w2) : Rw N0 row w w2 := fun hN =>
  ⟨(k (h hN).1).1, fun i hi hr => ((k (h hN).1).2 i hi hr).trans ((h hN).2 i hi hr)⟩
theorem Rw.grown {N0 : Nat} {row row' : Option Nat} {w w' : World} (h : w.grownBy w' row') (hr : row' = row ∨ ∀ b, row' = some b → N0 ≤ b) : Rw N0 row w w' := fun hN =>
  ⟨Nat.le_trans hN h.size, fun k hk hk2 => h.block k (by omega) (fun e => by
    rcases hr with hr | hr
    · exact hk2 (e.trans hr)
    · have := hr k e.symm; omega)⟩
theorem EvIn.rw_ {N0 : Nat} {row : Option Nat} {w w' : World} {g : Nat} {e : Ev} (h : EvIn w g e) (hr : Rw N0 row w w') (hN : N0 ≤ w.heap.size) (hg : g < N0) (hne : some g ≠ row) : EvIn w' g e := fun j u hj =>
  (World.cell?_of_block ((hr hN).2 g hg hne)).trans (h j u hj)
/-- bytes that were put behind -/
def Jat (base N0 : Nat) (w0 : World) (A0 : Option Addr) (l : List UInt8) : Value → World → Prop := fun v w => N0 ≤ w.heap.size ∧ ∃ A n c, v = .slice A n c ∧ AppTo base 5 1 w0 w A0 A n c (bytesV l)
theorem Jat_stable (base N0 : Nat) (w0 : World) (A0 : Option Addr) (l : List UInt8) : Stable (Jat base N0 w0 A0 l) := fun _ _ _ hb ⟨h0, A, n, c, e, h⟩ => ⟨Nat.le_trans h0 hb.size, A, n, c, e, h.then_ hb⟩
def Jst (base N0 : Nat) (w0 : World) (A0 : Option Addr) (n c : Nat) (l : List UInt8) : Value → World → Prop := fun _ w => N0 ≤ w.heap.size ∧ AppTo base 5 1 w0 w A0 A0 n c (bytesV l)
theorem Jst_stable (base N0 : Nat) (w0 : World) (A0 : Option Addr) (n c : Nat) (l : List UInt8) : Stable (Jst base N0 w0 A0 n c l) := fun _ _ _ hb ⟨h0, h⟩ => ⟨Nat.le_trans h0 hb.size, h.then_ hb⟩

/-- an event's bytes -/
def Ev.nums (e : Ev) : List Nat := [e.K, e.At.toNat, e.N.toNat, e.P.toNat]
def evB (e : Ev) : List UInt8 := (e.nums.flatMap uv ++ (uv (zz e.A) ++ uv e.B.toNat)) ++ (uv e.S.length ++ e.S)
structure Ev.ok (e : Ev) : Prop where
  K : e.K < 256
  At : -9223372036854775808 ≤ e.At ∧ e.At ≤ 9223372036854775807
  N : -9223372036854775808 ≤ e.N ∧ e.N ≤ 9223372036854775807
  P : -9223372036854775808 ≤ e.P ∧ e.P ≤ 9223372036854775807
  A : -9223372036854775808 ≤ e.A ∧ e.A ≤ 9223372036854775807
  B : -9223372036854775808 ≤ e.B ∧ e.B ≤ 9223372036854775807
theorem right_pos {e : Ev} (h : rightB e = true) : 0 ≤ e.At ∧ e.At ≤ 1099511627776 ∧ 0 ≤ e.N ∧ e.N ≤ 200 ∧ 0 ≤ e.P ∧ e.P ≤ 100 ∧ 0 ≤ e.B ∧ e.B < 20 ∧ e.S.length ≤ 40 := by
  obtain ⟨K, At, N, P, A, B, S⟩ := e
  unfold rightB at h
  simp only [Bool.and_eq_true, decide_eq_true_eq] at h
  obtain ⟨⟨hk, h1⟩, h2⟩ := h
  unfold kindB at hk
  split at hk
  all_goals (try simp only [namedB, numberedB, statusB, plainB, beginB] at hk)
  all_goals (try (split at hk))
  all_goals (try (split at hk))
  all_goals (try (split at hk))
  all_goals (try simp only [Bool.and_eq_true, decide_eq_true_eq, beq_iff_eq, Bool.false_eq_true] at hk)
  all_goals (try simp only)
  all_goals (try (exact hk.2.elim))
  all_goals (try (exact hk.elim))
  all_goals (try omega)

theorem idx0 (a b c d : Int) (W : World) : (Instr.index 87 (.agg #[.int .u64 a, .int .u64 b, .int .u64 c, .int .u64 d]) (.int .i64 0)).run Try.prog W = .ok (.int .u64 a) W := by kernel_rfl
theorem idx1 (a b c d : Int) (W : World) : (Instr.index 87 (.agg #[.int .u64 a, .int .u64 b, .int .u64 c, .int .u64 d]) (.int .i64 1)).run Try.prog W = .ok (.int .u64 b) W := by kernel_rfl
theorem idx2 (a b c d : Int) (W : World) : (Instr.index 87 (.agg #[.int .u64 a, .int .u64 b, .int .u64 c, .int .u64 d]) (.int .i64 2)).run Try.prog W = .ok (.int .u64 c) W := by kernel_rfl
theorem idx3 (a b c d : Int) (W : World) : (Instr.index 87 (.agg #[.int .u64 a, .int .u64 b, .int .u64 c, .int .u64 d]) (.int .i64 3)).run Try.prog W = .ok (.int .u64 d) W := by kernel_rfl
/-- []byte(s) -/
theorem bytes_of (w : World) (s : List UInt8) : ∃ w' c, (convert 9 27 (.string (bstr s))).run Try.prog w = .ok (.slice (some ⟨w.heap.size, 0, none⟩) s.length c) w' ∧ Sl w' 1 (some ⟨w.heap.size, 0, none⟩) s.length c (bytesV s) ∧ Below w.heap.size w w' := by
  have hrun := run_bytes_of_string (P := Try.prog) w 9 27 5 (bstr s) Try.underlying9 Try.underlying27 Try.underlying5
  refine ⟨_, _, hrun, ?_, (Below.refl _ _).drew.alloc (by simp) _⟩
  have hge := grownCap_ge w s.length 0 5
  obtain ⟨m, hm⟩ : ∃ m, m = grownCap w s.length 0 5 := ⟨_, rfl⟩
  have hsz : (bstr s).size = s.length := rfl
  rw [← hm] at hge
  rw [hsz, ← hm]
  have e : bytesRow (bstr s) m = (bytesV (s ++ List.replicate (m - s.length) 0)).toArray := by
    unfold bytesRow
    rw [hsz]
    apply Array.ext'
    simp [bytesV, byteV, bstr]
  rw [e]
  have h1 := sl_lit_mark w.drew (s ++ List.replicate (m - s.length) 0) 5 (((bytesV (s ++ List.replicate (m - s.length) 0)).toArray).size, ((bytesV (s ++ List.replicate (m - s.length) 0)).toArray).size + 1)
  have hl : (s ++ List.replicate (m - s.length) 0).length = m := by simp; omega
  rw [hl] at h1
  have h2 := slb_to h1 s.length hge
  rw [List.take_left] at h2
  exact h2
theorem zz_lt2 {i : Int} (h : -9223372036854775808 ≤ i ∧ i ≤ 9223372036854775807) : zz i < 18446744073709551616 := by unfold zz; split <;> omega

set_option maxRecDepth 100000 in
set_option maxHeartbeats 2000000 in
theorem evBytes_any (base : Nat) (A : Option Addr) (n0 c : Nat) (l : List UInt8) (e : Ev) (w : World) (ha : App base 5 1 w A n0 c (bytesV l)) (hb : base ≤ w.heap.size) (hA : ∀ ad, A = some ad → ad.block < w.heap.size) (hn : n0 ≤ 100000)
    (hok : e.ok) (hr : rightB e = true) :
    Calls Try.prog 16 #[.slice A n0 c, e.v] w fun x w' => ∃ A' n' c', x = .returned (.tuple #[.slice A' n' c', .int .i64 0]) ∧ AppTo base 5 1 w w' A A' n' c' (bytesV (l ++ evB e)) := by
  have hbox : EvIn (w.alloc (.cells e.cells.toArray 24)) w.heap.size e := by
    intro j u hj
    have := (sl_cells w e.cells 24).cells j u hj
    obtain ⟨ad, h1, h2⟩ := this
    cases h1
    rwa [add_plain] at h2
  have hb0 := below_alloc1 w (.cells e.cells.toArray 24)
  obtain ⟨p1, p2, p3, p4, p5, p6, p7, p8, p9⟩ := right_pos hr
  have Hr := Lib.hid hr
  have hsz : w.heap.size < (w.alloc (.cells e.cells.toArray 24)).heap.size := by simp
  clear hr
  unfold Ev.v
  unfold Ev.cells at *
  go_enter Try.func16, Try.ntmps16
  go_wp2_with fail
  generalize w.alloc (.cells #[.int .u8 (e.K : Int), .int .i64 e.At, .int .i64 e.N, .int .i64 e.P, .int .i64 e.A, .int .i64 e.B, .string (bstr e.S)] 24) = W0 at *
  refine (right_any e _ hok.K).mono ?_; rintro x w1 ⟨rfl, hb1⟩
  rw [Hr.out]
  have hbox1 : EvIn w1 w.heap.size e := EvIn.below hbox hb1
  have hbA := hb0.trans (hb1.mono hb0.size)
  have hsz1 : w.heap.size < w1.heap.size := Nat.lt_of_lt_of_le hsz hb1.size
  clear hbox hb0 hb1 hsz
  obtain ⟨At, hAt⟩ := Int.eq_ofNat_of_zero_le p1
  obtain ⟨N, hN⟩ := Int.eq_ofNat_of_zero_le p3
  obtain ⟨P, hP⟩ := Int.eq_ofNat_of_zero_le p5
  obtain ⟨B, hB⟩ := Int.eq_ofNat_of_zero_le p7
  have hc0 := hbox1 0 _ rfl
  have hc1 := hbox1 1 _ rfl
  have hc2 := hbox1 2 _ rfl
  have hc3 := hbox1 3 _ rfl
  rw [hAt] at hc1
  rw [hN] at hc2
  rw [hP] at hc3
  have hnums : e.nums = [e.K, At, N, P] := by unfold Ev.nums; rw [hAt, hN, hP]; rfl
  have hKl := hok.K
  have Hnums := Lib.hid hnums
  rw [hAt] at p1 p2
  rw [hN] at p3 p4
  rw [hP] at p5 p6
  have HAt := Lib.hid hAt
  have HB := Lib.hid hB
  clear hnums hAt hN hP hB
  go_upto_block 0 with fail
  have ha1 := ha.below hbA
  have Hl := Lib.hid ha.sl.blen
  have hbase : base ≤ w1.heap.size := Nat.le_trans hb hbA.size
  clear hc0 hc1 hc2 hc3 ha
  go_cut [0] (fun s wx => ∃ A' n' c', s = .slice A' n' c' ∧ AppTo base 5 1 w1 wx A A' n' c' (bytesV (l ++ [e.K, At, N, P].flatMap uv)))
  case first =>
    go_wp2_with fail
    go_loopw [0, 24] (fun s iv wx => ∃ (i : Nat) (A' : Option Addr) (n' c' : Nat), i ≤ 4 ∧ n' ≤ n0 + 10 * i ∧ iv = .int .i64 (i : Int) ∧ s = .slice A' n' c' ∧ AppTo base 5 1 w1 wx A A' n' c' (bytesV (l ++ ([e.K, At, N, P].take i).flatMap uv))) (fun _ iv _ => 4 - (intOf iv).toNat)
    case atStart => exact ⟨0, A, n0, c, by omega, by omega, rfl, rfl, by simpa using AppTo.refl ha1⟩
    case round =>
      obtain ⟨i, A', n', c', hi4, hn', rfl, rfl, hto⟩ := hrel
      have hbx : base ≤ wr.heap.size := Nat.le_trans hbase hto.grown.size
      by_cases hlt : i < 4
      · have h4 : i = 0 ∨ i = 1 ∨ i = 2 ∨ i = 3 := by omega
        have u0 := uv_len_ten e.K (by omega)
        have u1 := uv_len_ten At (by omega)
        have u2 := uv_len_ten N (by omega)
        have u3 := uv_len_ten P (by omega)
        have i0 := idx0 (e.K : Int) (At : Int) (N : Int) (P : Int)
        have i1 := idx1 (e.K : Int) (At : Int) (N : Int) (P : Int)
        have i2 := idx2 (e.K : Int) (At : Int) (N : Int) (P : Int)
        have i3 := idx3 (e.K : Int) (At : Int) (N : Int) (P : Int)
        clear hbox1 hlt
        rcases h4 with rfl | rfl | rfl | rfl
        · go_wp2_with fail
          refine (uint_at base A' n' c' (l ++ ([e.K, At, N, P].take 0).flatMap uv) e.K _ _ hto.app hbx (by omega) (by omega) rfl).mono ?_; rintro x w2 ⟨A2, n2, c2, rfl, hto2⟩
          have hto3 := hto.trans hto2
          have hl2 := hto3.app.sl.blen
          have hl1 := hto.app.sl.blen
          rw [List.length_append, hl1] at hl2
          rw [show l ++ ([e.K, At, N, P].take 0).flatMap uv ++ uv e.K = l ++ ([e.K, At, N, P].take 1).flatMap uv by simp] at hto3
          have hn2 : n2 ≤ n0 + 10 * 1 := by omega
          clear hto hto2 i0 i1 i2 i3 hl1 hl2
          go_wp2_with fail
          go_roundw
          case rel => exact ⟨1, A2, n2, c2, by omega, hn2, rfl, rfl, hto3⟩
          case measure => simp [intOf]
        · go_wp2_with fail
          refine (uint_at base A' n' c' (l ++ ([e.K, At, N, P].take 1).flatMap uv) At _ _ hto.app hbx (by omega) (by omega) rfl).mono ?_; rintro x w2 ⟨A2, n2, c2, rfl, hto2⟩
          have hto3 := hto.trans hto2
          have hl2 := hto3.app.sl.blen
          have hl1 := hto.app.sl.blen
          rw [List.length_append, hl1] at hl2
          rw [show l ++ ([e.K, At, N, P].take 1).flatMap uv ++ uv At = l ++ ([e.K, At, N, P].take 2).flatMap uv by simp] at hto3
          have hn2 : n2 ≤ n0 + 10 * 2 := by omega
          clear hto hto2 i0 i1 i2 i3 hl1 hl2
          go_wp2_with fail
          go_roundw
          case rel => exact ⟨2, A2, n2, c2, by omega, hn2, rfl, rfl, hto3⟩
          case measure => simp [intOf]
        · go_wp2_with fail
          refine (uint_at base A' n' c' (l ++ ([e.K, At, N, P].take 2).flatMap uv) N _ _ hto.app hbx (by omega) (by omega) rfl).mono ?_; rintro x w2 ⟨A2, n2, c2, rfl, hto2⟩
          have hto3 := hto.trans hto2
          have hl2 := hto3.app.sl.blen
          have hl1 := hto.app.sl.blen
          rw [List.length_append, hl1] at hl2
          rw [show l ++ ([e.K, At, N, P].take 2).flatMap uv ++ uv N = l ++ ([e.K, At, N, P].take 3).flatMap uv by simp] at hto3
          have hn2 : n2 ≤ n0 + 10 * 3 := by omega
          clear hto hto2 i0 i1 i2 i3 hl1 hl2
          go_wp2_with fail
          go_roundw
          case rel => exact ⟨3, A2, n2, c2, by omega, hn2, rfl, rfl, hto3⟩
          case measure => simp [intOf]
        · go_wp2_with fail
          refine (uint_at base A' n' c' (l ++ ([e.K, At, N, P].take 3).flatMap uv) P _ _ hto.app hbx (by omega) (by omega) rfl).mono ?_; rintro x w2 ⟨A2, n2, c2, rfl, hto2⟩
          have hto3 := hto.trans hto2
          have hl2 := hto3.app.sl.blen
          have hl1 := hto.app.sl.blen
          rw [List.length_append, hl1] at hl2
          rw [show l ++ ([e.K, At, N, P].take 3).flatMap uv ++ uv P = l ++ ([e.K, At, N, P].take 4).flatMap uv by simp] at hto3
          have hn2 : n2 ≤ n0 + 10 * 4 := by omega
          clear hto hto2 i0 i1 i2 i3 hl1 hl2
          go_wp2_with fail
          go_roundw
          case rel => exact ⟨4, A2, n2, c2, by omega, hn2, rfl, rfl, hto3⟩
          case measure => simp [intOf]
      · obtain rfl : i = 4 := by omega
        go_wp2_with fail
        go_meet
        exact ⟨A', n', c', rfl, by simpa using hto⟩
  case rest =>
    obtain ⟨A2, n2, c2, rfl, hto⟩ := hcut
    generalize wc = w2 at *
    obtain ⟨L2, hL2⟩ : ∃ L2, L2 = l ++ [e.K, At, N, P].flatMap uv := ⟨_, rfl⟩
    rw [← hL2] at hto
    have hap2 := hto.app
    have hbase2 : base ≤ w2.heap.size := Nat.le_trans hbase hto.grown.size
    have hg2 : w.heap.size < w2.heap.size := Nat.lt_of_lt_of_le hsz1 hto.grown.size
    have hne1 : ∀ ad, A = some ad → ad.block ≠ w.heap.size := fun ad h => by have := hA ad h; omega
    have hrow : ∀ (A1 : Option Addr), From w1 A A1 → some w.heap.size ≠ rowOf base A1 := by
      intro A1 hf e1
      cases A1 with
      | none => simp [rowOf] at e1
      | some a1 =>
        have h1 : a1.block = w.heap.size := by
          by_cases hba : base ≤ a1.block
          · rw [rowOf_some hba] at e1; exact (by simpa using e1.symm)
          · rw [rowOf_lt (by omega)] at e1; cases e1
        rcases hf a1 rfl with ⟨a, ha, hbk⟩ | hn
        · exact hne1 a ha (by omega)
        · omega
    have hbox2 : EvIn w2 w.heap.size e := fun j u hj => (World.cell?_of_block (hto.grown.block _ hsz1 (hrow A (From.refl _ _)))).trans (hbox1 j u hj)
    have hne2 : some w.heap.size ≠ rowOf base A2 := hrow A2 hto.lies
    have Hl2 := Lib.hid hap2.sl.blen
    have u0 := uv_len_ten e.K (by omega)
    have u1 := uv_len_ten At (by omega)
    have u2 := uv_len_ten N (by omega)
    have u3 := uv_len_ten P (by omega)
    have hn2 : n2 ≤ n0 + 40 := by
      have h1 := Hl2.out
      rw [hL2] at h1
      simp at h1
      have := Hl.out
      omega
    have hzz : zz e.A < 18446744073709551616 := by have := hok.A; unfold zz; split <;> omega
    have hwB : IntKind.u64.wrap (B : Int) = (B : Int) := by rw [IntKind.wrap_u64]; have := HB.out; omega
    have hBl : B < 20 := by have := HB.out; omega
    have HL2 := Lib.hid hL2
    clear hL2 u0 u1 u2 u3 hbox1
    go_wp2_with fail
    --@region 16 8 evbytes8.spec
    refine wp_region_runE [3, 7, 8] (Jst base w2.heap.size w2 A2 n2 c2 L2) (by kernel_rfl) (by kernel_rfl) (by kernel_rfl) (R := Rw w2.heap.size (rowOf base A2)) Rw.below Rw.trans (Jst_stable _ _ _ _ _ _ _) ⟨Nat.le_refl _, AppTo.refl hap2⟩ ?_
    apply RunE.pure (by decide)
    · intro vs w hb hd; clear hd; simp only [List.take, putL, Act.put, List.setIfInBounds_toArray, List.set_cons_zero, List.set_cons_succ]; unfold StepOK; go_simp; exact ⟨Below.refl _ _, isV_mk _ _⟩
    apply RunE.pure (by decide)
    · intro vs w hb hd; clear hd; simp only [List.take, putL, Act.put, List.setIfInBounds_toArray, List.set_cons_zero, List.set_cons_succ]; unfold StepOK; go_simp; exact ⟨Below.refl _ _, isV_mk _ _⟩
    apply RunE.pure (by decide)
    · intro vs w hb hd; have d1 : isV _ (vs 1) w := hd 1 (by decide) (by kernel_rfl); unfold isV at d1; clear hd; have hE := hbox2.rw_ hb (Nat.le_refl _) hg2 hne2; have hc4 := hE 4 _ rfl; simp only [List.take, putL, Act.put, List.setIfInBounds_toArray, List.set_cons_zero, List.set_cons_succ]; unfold StepOK; go_simp; exact ⟨Below.refl _ _, isV_mk _ _⟩
    refine RunE.eff (by decide) (Jat base w2.heap.size w2 A2 (L2 ++ uv (zz e.A))) (Jat_stable _ _ _ _ _) ?_ ?_
    · intro vs w hb hd hj; have d0 : isV _ (vs 0) w := hd 0 (by decide) (by kernel_rfl); unfold isV at d0; have d2 : isV _ (vs 2) w := hd 2 (by decide) (by kernel_rfl); unfold isV at d2; clear hd; have hj2 := hj; simp only [prevE, lastV, List.mem_cons, List.not_mem_nil, or_false, Nat.reduceEqDiff, Nat.reduceAdd, if_true, if_false, reduceIte, or_true, true_or, or_self] at hj2; clear hj; obtain ⟨hN, hto⟩ := hj2; simp only [List.take, putL, Act.put, List.setIfInBounds_toArray, List.set_cons_zero, List.set_cons_succ]; unfold StepE; go_simp; refine ⟨Rw.below _ _ (Below.refl _ _), (int_any base _ _ _ L2 e.A _ hto.app (Nat.le_trans hbase2 hN) hok.A.1 hok.A.2 (by omega)).mono ?_⟩; rintro x w' ⟨A', n', c', rfl, hto2⟩; exact ⟨_, rfl, Rw.grown hto2.grown (.inl rfl), Nat.le_trans hN hto2.grown.size, A', n', c', rfl, hto.trans hto2⟩
    apply RunE.pure (by decide)
    · intro vs w hb hd; clear hd; simp only [List.take, putL, Act.put, List.setIfInBounds_toArray, List.set_cons_zero, List.set_cons_succ]; unfold StepOK; go_simp; exact ⟨Below.refl _ _, isV_mk _ _⟩
    apply RunE.pure (by decide)
    · intro vs w hb hd; have d4 : isV _ (vs 4) w := hd 4 (by decide) (by kernel_rfl); unfold isV at d4; clear hd; have hE := hbox2.rw_ hb (Nat.le_refl _) hg2 hne2; have hc5 := hE 5 _ rfl; rw [HB.out] at hc5; simp only [List.take, putL, Act.put, List.setIfInBounds_toArray, List.set_cons_zero, List.set_cons_succ]; unfold StepOK; go_simp; exact ⟨Below.refl _ _, isV_mk _ _⟩
    apply RunE.pure (by decide)
    · intro vs w hb hd; have d5 : isV _ (vs 5) w := hd 5 (by decide) (by kernel_rfl); unfold isV at d5; clear hd; have hq := hwB; simp only [List.take, putL, Act.put, List.setIfInBounds_toArray, List.set_cons_zero, List.set_cons_succ]; unfold StepOK; go_simp; exact ⟨Below.refl _ _, isV_mk _ _⟩
    refine RunE.eff (by decide) (Jat base w2.heap.size w2 A2 (L2 ++ (uv (zz e.A) ++ uv B))) (Jat_stable _ _ _ _ _) ?_ ?_
    · intro vs w hb hd hj; have d6 : isV _ (vs 6) w := hd 6 (by decide) (by kernel_rfl); unfold isV at d6; clear hd; have hj2 := hj; simp only [prevE, lastV, List.mem_cons, List.not_mem_nil, or_false, Nat.reduceEqDiff, Nat.reduceAdd, if_true, if_false, reduceIte, or_true, true_or, or_self] at hj2; clear hj; obtain ⟨hN, A1, n1, c1, e1, hto⟩ := hj2; have hn1 : n1 ≤ 200000 := by { have := hto.app.sl.blen; rw [List.length_append, Hl2.out] at this; have := uv_len_ten (zz e.A) (zz_lt2 hok.A); omega }; simp only [List.take, putL, Act.put, List.setIfInBounds_toArray, List.set_cons_zero, List.set_cons_succ]; unfold StepE; go_simp; refine ⟨Rw.below _ _ (Below.refl _ _), (uint_at base A1 n1 c1 (L2 ++ uv (zz e.A)) B _ _ hto.app (Nat.le_trans hbase2 hN) (by omega) (by omega) rfl).mono ?_⟩; rintro x w' ⟨A', n', c', rfl, hto2⟩; exact ⟨_, rfl, Rw.grown hto2.grown hto.lies.row, Nat.le_trans hN hto2.grown.size, A', n', c', rfl, by rw [← List.append_assoc]; exact hto.trans hto2⟩
    refine RunE.eff (by decide) (Jat base w2.heap.size w2 A2 (L2 ++ (uv (zz e.A) ++ uv B))) (Jat_stable _ _ _ _ _) ?_ ?_
    · intro vs w hb hd hj; have d0 : isV _ (vs 0) w := hd 0 (by decide) (by kernel_rfl); unfold isV at d0; have d1 : isV _ (vs 1) w := hd 1 (by decide) (by kernel_rfl); unfold isV at d1; have d2 : isV _ (vs 2) w := hd 2 (by decide) (by kernel_rfl); unfold isV at d2; have d4 : isV _ (vs 4) w := hd 4 (by decide) (by kernel_rfl); unfold isV at d4; have d5 : isV _ (vs 5) w := hd 5 (by decide) (by kernel_rfl); unfold isV at d5; have d6 : isV _ (vs 6) w := hd 6 (by decide) (by kernel_rfl); unfold isV at d6; clear hd; have hj2 := hj; simp only [prevE, lastV, List.mem_cons, List.not_mem_nil, or_false, Nat.reduceEqDiff, Nat.reduceAdd, if_true, if_false, reduceIte, or_true, true_or, or_self] at hj2; clear hj; obtain ⟨hN, A1, n1, c1, e1, hto⟩ := hj2; simp only [List.take, putL, Act.put, List.setIfInBounds_toArray, List.set_cons_zero, List.set_cons_succ]; unfold StepE; go_simp; exact ⟨Rw.below _ _ (Below.refl _ _), hN, A1, n1, c1, rfl, hto⟩
    intro vs w1 hb hd hj
    simp only [prevE, lastV, List.mem_cons, List.not_mem_nil, or_false, Nat.reduceEqDiff, Nat.reduceAdd, if_true, if_false, reduceIte, or_true, true_or, or_self] at hj
    have e0 : isV _ (vs 0) w1 := hd 0 (by decide)
    have e1 : isV _ (vs 1) w1 := hd 1 (by decide)
    have e2 : isV _ (vs 2) w1 := hd 2 (by decide)
    have e4 : isV _ (vs 4) w1 := hd 4 (by decide)
    have e5 : isV _ (vs 5) w1 := hd 5 (by decide)
    have e6 : isV _ (vs 6) w1 := hd 6 (by decide)
    clear hd
    unfold isV at e0 e1 e2 e4 e5 e6
    simp only [putL, Act.put, List.setIfInBounds_toArray, List.set_cons_zero, List.set_cons_succ, e0, e1, e2, e4, e5, e6]
    clear e0 e1 e2 e4 e5 e6
    --@end
    obtain ⟨hN3, A3, n3, c3, e3, hto3⟩ := hj
    have hE3 := hbox2.rw_ hb (Nat.le_refl _) hg2 hne2
    have hc6 := hE3 6 _ rfl
    simp only [Nat.reduceAdd, e3]
    clear e3 hb
    go_wp2_with fail
    obtain ⟨w4, c4, hcv, hs4, hb4⟩ := bytes_of w1 e.S
    rw [hcv]
    simp only [Result.andThen, Oper.upon]
    have hap4 := hto3.app.below hb4
    have hn3 := hto3.app.sl.blen
    have hu1 := uv_len_ten (zz e.A) hzz
    have hu2 := uv_len_ten B (by omega)
    have hu3 := uv_pos B
    rw [List.length_append, List.length_append, Hl2.out] at hn3
    have hsep4 : ∀ ad : Addr, some (⟨w1.heap.size, 0, none⟩ : Addr) = some ad → some ad.block ≠ rowOf base A3 := by
      intro ad had e1
      cases had
      cases A3 with
      | none => simp [rowOf] at e1
      | some a3 =>
        have h1 := hto3.app.block_lt (by omega)
        by_cases hba : base ≤ a3.block
        · rw [rowOf_some hba] at e1; simp at e1; omega
        · rw [rowOf_lt (by omega)] at e1; cases e1
    clear hcv hc6 hE3
    go_wp2_with fail
    refine (blob_any base _ _ _ _ _ _ (L2 ++ (uv (zz e.A) ++ uv B)) e.S _ hap4 (Nat.le_trans hbase2 (Nat.le_trans hN3 hb4.size)) hs4 hsep4 (by omega) (by omega)).mono ?_; rintro x w5 ⟨A5, n5, c5, rfl, hto5⟩
    go_wp2_with fail
    go_ret2
    refine ⟨A5, n5, c5, rfl, ?_⟩
    have hfin := AppTo.after hbA ((hto.trans (hto3.then_ hb4)).trans hto5)
    have hev : l ++ evB e = L2 ++ (uv (zz e.A) ++ uv B) ++ (uv e.S.length ++ e.S) := by
      unfold evB
      rw [Hnums.out, HL2.out, HB.out]
      simp
    rw [hev]
    exact hfin

set_option maxRecDepth 100000 in
set_option maxHeartbeats 2000000 in
theorem evBytes_none (A : Option Addr) (n0 c : Nat) (e : Ev) (w : World) (hok : e.ok) (hr : rightB e = false) :
    Calls Try.prog 16 #[.slice A n0 c, e.v] w fun x w' => x = .returned (.tuple #[.slice none 0 0, .int .i64 102]) ∧ Below w.heap.size w w' := by
  have hb0 := below_alloc1 w (.cells e.cells.toArray 24)
  have Hr := Lib.hid hr
  clear hr
  unfold Ev.v
  unfold Ev.cells at *
  go_enter Try.func16, Try.ntmps16
  go_wp2_with fail
  generalize w.alloc (.cells #[.int .u8 (e.K : Int), .int .i64 e.At, .int .i64 e.N, .int .i64 e.P, .int .i64 e.A, .int .i64 e.B, .string (bstr e.S)] 24) = W0 at *
  refine (right_any e _ hok.K).mono ?_; rintro x w1 ⟨rfl, hb1⟩
  rw [Hr.out]
  go_wp2_with fail
  go_ret2
  exact ⟨rfl, hb0.trans (hb1.mono hb0.size)⟩
end Go.Proofs.Ytphjmbhlokkdiaa
