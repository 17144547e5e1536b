import Derived.Test.YtphjmbhlokkdiaaEvA
import Derived.Maps.Keyed
namespace Go.Proofs.Ytphjmbhlokkdiaa
open Go.RowKit Go.ChangeShapes Go.ChangeMaps
set_option linter.unusedSimpArgs false
set_option linter.unusedVariables false

def rightB (e : Ev) : Bool := kindB e e.K && decide (0 ≤ e.At) && decide (e.At ≤ 1099511627776)

/-- entries of a map at the keys j + 1, j + 2, .. -/
def entsF : Nat → List Value → List MapEntry
  | _, [] => []
  | j, v :: r => ⟨.int .u8 ((j + 1 : Nat) : Int), v, j⟩ :: entsF (j + 1) r
theorem entsF_snoc (vs : List Value) (v : Value) : ∀ j, entsF j (vs ++ [v]) = entsF j vs ++ [⟨.int .u8 ((j + vs.length + 1 : Nat) : Int), v, j + vs.length⟩] := by
  induction vs with
  | nil => intro j; rfl
  | cons u r ih => intro j; simp only [List.cons_append, entsF, ih, List.length_cons]; rw [show j + 1 + r.length = j + (r.length + 1) by omega]
theorem find_none (x : Nat) (vs : List Value) : ∀ j i, (x ≤ j ∨ j + vs.length < x) → Instr.findNow (.int .u8) (.int .u8 (x : Int)) (entsF j vs) i = some none := by
  induction vs with
  | nil => intro j i _; rfl
  | cons u r ih =>
    intro j i h
    have hne : ((x : Int) == ((j + 1 : Nat) : Int)) = false := by simp only [List.length_cons] at h; simp; omega
    simp only [entsF, Instr.findNow, Instr.sameNow, if_true, hne]
    exact ih (j + 1) (i + 1) (by simp only [List.length_cons] at h; omega)
theorem find_some (x : Nat) (vs : List Value) : ∀ j i v, vs[x - j - 1]? = some v → j < x → ∃ k, Instr.findNow (.int .u8) (.int .u8 (x : Int)) (entsF j vs) i = some (some (k, v)) := by
  induction vs with
  | nil => intro j i v h; simp at h
  | cons u r ih =>
    intro j i v h hj
    by_cases hx : x = j + 1
    · subst hx
      have he : (((j + 1 : Nat) : Int) == ((j + 1 : Nat) : Int)) = true := by simp
      simp only [entsF, Instr.findNow, Instr.sameNow, if_true, he]
      have : u = v := by simpa using h
      exact ⟨i, by rw [this]⟩
    · have hne : ((x : Int) == ((j + 1 : Nat) : Int)) = false := by simp; omega
      simp only [entsF, Instr.findNow, Instr.sameNow, if_true, hne]
      refine ih (j + 1) (i + 1) v ?_ (by omega)
      rw [show x - j - 1 = (x - (j + 1) - 1) + 1 by omega, List.getElem?_cons_succ] at h
      exact h
def MapIs (w : World) (b : Nat) (vs : List Value) : Prop := w.heap[b]? = some (.map (entsF 0 vs).toArray vs.length)
theorem key_ok (k : Nat) (w : World) (em : Bool) (h : k < 256) : (Instr.checkKey em 10000 22 (.int .u8 (k : Int))).run Try.prog w = .ok () w := by
  refine MapKept.run_checkKey (d := .int .u8) Try.underlying22 ?_ em 9999
  rfl
theorem run_find (k : Nat) (w : World) (es : List MapEntry) (r : Option (Nat × Value)) (h : Instr.findNow (.int .u8) (.int .u8 (k : Int)) es 0 = some r) : (Instr.findKey 22 (.int .u8 (k : Int)) es).run Try.prog w = .ok r w := by
  unfold Instr.findKey
  simp only [Sem.run_bind, run_underlying Try.underlying22, Result.andThen, h]
  rfl
theorem run_make (w : World) : (Instr.makeMap 84 none).run Try.prog w = .ok (.map (some w.heap.size)) (w.alloc (.map #[] 0)) := by
  simp [Instr.makeMap]
theorem make_is (w : World) : MapIs (w.alloc (.map #[] 0)) w.heap.size [] := heap_alloc_new w _
theorem insert_is (w : World) (b : Nat) (vs : List Value) (v : Value) (K : Int) (h : MapIs w b vs) (hK : K = ((vs.length + 1 : Nat) : Int)) (hl : vs.length < 200) :
    ∃ w', (Instr.mapUpdate 84 (.map (some b)) (.int .u8 K) v).run Try.prog w = .ok () w' ∧ MapIs w' b (vs ++ [v]) ∧ w.grownBy w' (some b) := by
  obtain ⟨m, hm⟩ : ∃ m, m = vs.length + 1 := ⟨_, rfl⟩
  rw [← hm] at hK
  subst hK
  have hf := find_none m vs 0 0 (.inr (by omega))
  refine ⟨setBlock w b (.map ((entsF 0 vs).toArray.push ⟨.int .u8 (m : Int), v, vs.length⟩) (vs.length + 1)), ?_, ?_, ?_⟩
  · have h1 := run_find m w (entsF 0 vs) none hf
    simp [Instr.mapUpdate, run_underlying Try.underlying84, MapKept.run_getObj_map h, key_ok m w false (by omega), h1, MapKept.run_setObj_map _ h, Result.andThen, setBlock]
  · have h2 := heap_setBlock_same h (.map ((entsF 0 vs).toArray.push ⟨.int .u8 (m : Int), v, vs.length⟩) (vs.length + 1))
    unfold MapIs
    rw [h2, entsF_snoc]
    simp [hm]
  · refine ⟨rfl, rfl, rfl, by simp [setBlock], fun k _ hk => heap_setBlock_other h _ (by simpa using hk)⟩
theorem lookup_in (w : World) (b : Nat) (vs : List Value) (v : Value) (k : Nat) (h : MapIs w b vs) (hk : 0 < k) (hl : k < 256) (hv : vs[k - 1]? = some v) :
    (Instr.lookup 84 (.map (some b)) (.int .u8 (k : Int)) true).run Try.prog w = .ok (.tuple #[v, .bool true]) w := by
  obtain ⟨j, hf⟩ := find_some k vs 0 0 v (by simpa using hv) hk
  have h1 := run_find k w (entsF 0 vs) (some (j, v)) hf
  simp [Instr.lookup, run_underlying Try.underlying84, MapKept.run_getObj_map h, key_ok k w _ hl, h1, Result.andThen]
theorem lookup_out (w : World) (b : Nat) (vs : List Value) (k : Nat) (h : MapIs w b vs) (hl : k < 256) (hk : k = 0 ∨ vs.length < k) :
    (Instr.lookup 84 (.map (some b)) (.int .u8 (k : Int)) true).run Try.prog w = .ok (.tuple #[.nilFunc, .bool false]) w := by
  have hf := find_none k vs 0 0 (by omega)
  have h1 := run_find k w (entsF 0 vs) none hf
  have hz : (zeroValue 26).run Try.prog w = .ok .nilFunc w := by kernel_rfl
  simp [Instr.lookup, run_underlying Try.underlying84, MapKept.run_getObj_map h, key_ok k w _ hl, h1, hz, Result.andThen]

theorem EvIn.grown {w w' : World} {g b : Nat} {e : Ev} (h : EvIn w g e) (hg : w.grownBy w' (some b)) (hne : g ≠ b) : EvIn w' g e := fun j u hj =>
  (World.cell?_of_block (hg.block _ (World.block_lt_of_cell? _ _ (h j u hj)) (by simpa using hne))).trans (h j u hj)
theorem cell_grown {w w' : World} {g b : Nat} {u : Value} (h : w.cell? ⟨g, 0, none⟩ = some u) (hg : w.grownBy w' (some b)) (hne : g ≠ b) : w'.cell? ⟨g, 0, none⟩ = some u :=
  (World.cell?_of_block (hg.block _ (World.block_lt_of_cell? _ _ h) (by simpa using hne))).trans h

set_option maxRecDepth 100000 in
set_option maxHeartbeats 4000000 in
theorem right_any (e : Ev) (w : World) (hK : e.K < 256) : Calls Try.prog 14 #[e.v] w fun x w' => x = .returned (.bool (rightB e)) ∧ Below w.heap.size w w' := by
  have hbox : EvIn (w.alloc (.cells e.cells.toArray 24)) w.heap.size e := by
    intro j u hj
    have := (sl_cells w e.cells 24).cells j u hj
    obtain ⟨ad, h1, h2⟩ := this
    cases h1
    rwa [add_plain] at h2
  have hb0 := below_alloc1 w (.cells e.cells.toArray 24)
  have hs0 : (w.alloc (.cells e.cells.toArray 24)).heap.size = w.heap.size + 1 := by simp
  obtain ⟨z, hz⟩ : ∃ z, (e.B == 0) = z := ⟨_, rfl⟩
  unfold Ev.v
  unfold Ev.cells at *
  cases z with
  | false =>
    have hp : plainB e = false := by
      unfold plainB
      rw [hz]
      rfl
    have Hp := Lib.hid hp
    clear hp
    go_enter Try.func14, Try.ntmps14
    go_wp2_with fail
    generalize w.alloc (.cells #[.int .u8 (e.K : Int), .int .i64 e.At, .int .i64 e.N, .int .i64 e.P, .int .i64 e.A, .int .i64 e.B, .string (bstr e.S)] 24) = Wa at *
    have hpl : (Wa.alloc (.cells #[.bool (false)] 4)).cell? ⟨w.heap.size + 1, 0, none⟩ = some (.bool (plainB e)) := by
      rw [Hp.out]
      have := (sl_one Wa (.bool (false)) 4).cells 0 _ rfl
      obtain ⟨ad, h1, h2⟩ := this
      cases h1
      rw [hs0] at h2
      exact h2
    have hbb := below_alloc1 Wa (.cells #[.bool (false)] 4)
    have hs1 : (Wa.alloc (.cells #[.bool (false)] 4)).heap.size = w.heap.size + 2 := by simp [hs0]
    have hbox1 := hbox.below hbb
    have hbc := hb0.trans (hbb.mono hb0.size)
    clear hbb hbox hb0 hs0 hz
    generalize Wa.alloc (.cells #[.bool (false)] 4) = W0 at *
    have hmk := run_make W0
    have hm0 := make_is W0
    have hb1 := below_alloc1 W0 (.map #[] 0)
    have hbox2 := hbox1.below hb1
    have hpl2 : (W0.alloc (.map #[] 0)).cell? ⟨w.heap.size + 1, 0, none⟩ = some (.bool (plainB e)) := (World.cell?_of_block (hb1.block _ (World.block_lt_of_cell? _ _ hpl))).trans hpl
    have hbd := hbc.trans (hb1.mono hbc.size)
    rw [hs1] at hmk hm0
    clear hbc hb1 hbox1 hpl hs1
    generalize W0.alloc (.map #[] 0) = W1 at *
    obtain ⟨B, hB⟩ : ∃ B, B = w.heap.size + 2 := ⟨_, rfl⟩
    rw [← hB] at hmk hm0
    obtain ⟨V1, q1, m1, g1⟩ := insert_is W1 B _ (.func (.func 45) #[] #[.pointer (some ⟨w.heap.size, 0, none⟩)]) 1 hm0 rfl (by simp)
    obtain ⟨V2, q2, m2, g2⟩ := insert_is V1 B _ (.func (.func 47) #[] #[.pointer (some ⟨w.heap.size, 0, none⟩)]) 2 m1 rfl (by simp)
    obtain ⟨V3, q3, m3, g3⟩ := insert_is V2 B _ (.func (.func 50) #[] #[.pointer (some ⟨w.heap.size, 0, none⟩), .pointer (some ⟨w.heap.size + 1, 0, none⟩)]) 3 m2 rfl (by simp)
    obtain ⟨V4, q4, m4, g4⟩ := insert_is V3 B _ (.func (.func 51) #[] #[.pointer (some ⟨w.heap.size, 0, none⟩), .pointer (some ⟨w.heap.size + 1, 0, none⟩)]) 4 m3 rfl (by simp)
    obtain ⟨V5, q5, m5, g5⟩ := insert_is V4 B _ (.func (.func 53) #[] #[.pointer (some ⟨w.heap.size, 0, none⟩), .pointer (some ⟨w.heap.size + 1, 0, none⟩)]) 5 m4 rfl (by simp)
    obtain ⟨V6, q6, m6, g6⟩ := insert_is V5 B _ (.func (.func 54) #[] #[.pointer (some ⟨w.heap.size, 0, none⟩), .pointer (some ⟨w.heap.size + 1, 0, none⟩)]) 6 m5 rfl (by simp)
    obtain ⟨V7, q7, m7, g7⟩ := insert_is V6 B _ (.func (.func 55) #[] #[.pointer (some ⟨w.heap.size, 0, none⟩), .pointer (some ⟨w.heap.size + 1, 0, none⟩)]) 7 m6 rfl (by simp)
    have G := g1
    have G := grownBy_trans G g2
    have G := grownBy_trans G g3
    have G := grownBy_trans G g4
    have G := grownBy_trans G g5
    have G := grownBy_trans G g6
    have G := grownBy_trans G g7
    have hE := hbox2.grown G (by omega)
    have hP := cell_grown hpl2 G (by omega)
    have hbe : Below w.heap.size w V7 := hbd.grown G hbd.size (fun k hk => by cases hk; omega)
    have hE0 := hE 0 _ rfl
    have hE1 := hE 1 _ rfl
    clear g1 g2 g3 g4 g5 g6 g7 G m1 m2 m3 m4 m5 m6 hm0 hbox2 hpl2 hbd
    have HB := Lib.hid hB
    have Hm := Lib.hid m7
    clear hB m7
    rw [hmk]
    simp only [Result.andThen, Oper.upon]
    clear hmk
    go_wp2_with fail

    have h8 : e.K = 1 ∨ e.K = 2 ∨ e.K = 3 ∨ e.K = 4 ∨ e.K = 5 ∨ e.K = 6 ∨ e.K = 7 ∨ (e.K = 0 ∨ 7 < e.K) := by omega
    clear q1 q2 q3 q4 q5 q6 q7 Hp
    rcases h8 with h8 | h8 | h8 | h8 | h8 | h8 | h8 | h8
    · have hl := lookup_in V7 B _ (.func (.func 45) #[] #[.pointer (some ⟨w.heap.size, 0, none⟩)]) e.K Hm.out (by omega) hK (by rw [h8]; rfl)
      have HR : Hid (rightB e = (kindB e 1 && decide (0 ≤ e.At) && decide (e.At ≤ 1099511627776))) := Lib.hid (by unfold rightB; rw [h8])
      rw [hl]
      simp only [Result.andThen, Oper.upon]
      clear hl h8 Hm HB
      go_wp2_with (go_at_call 45; refine (right1_any _ e _ hE).mono ?_; rintro x w8 ⟨rfl, rfl⟩)
      all_goals
        go_ret
        first
          | exact ⟨ret_bool (by rw [HR.out]; simp [*] <;> omega), hbe⟩
          | exact ⟨ret_bool (by rw [HR.out]; simp [*] <;> omega), hbe.trans (hb8.mono hbe.size)⟩
    · have hl := lookup_in V7 B _ (.func (.func 47) #[] #[.pointer (some ⟨w.heap.size, 0, none⟩)]) e.K Hm.out (by omega) hK (by rw [h8]; rfl)
      have HR : Hid (rightB e = (kindB e 2 && decide (0 ≤ e.At) && decide (e.At ≤ 1099511627776))) := Lib.hid (by unfold rightB; rw [h8])
      rw [hl]
      simp only [Result.andThen, Oper.upon]
      clear hl h8 Hm HB
      go_wp2_with (go_at_call 47; refine (right2_any _ e _ hE).mono ?_; rintro x w8 ⟨rfl, hb8⟩)
      all_goals
        go_ret
        first
          | exact ⟨ret_bool (by rw [HR.out]; simp [*] <;> omega), hbe⟩
          | exact ⟨ret_bool (by rw [HR.out]; simp [*] <;> omega), hbe.trans (hb8.mono hbe.size)⟩
    · have hl := lookup_in V7 B _ (.func (.func 50) #[] #[.pointer (some ⟨w.heap.size, 0, none⟩), .pointer (some ⟨w.heap.size + 1, 0, none⟩)]) e.K Hm.out (by omega) hK (by rw [h8]; rfl)
      have HR : Hid (rightB e = (kindB e 3 && decide (0 ≤ e.At) && decide (e.At ≤ 1099511627776))) := Lib.hid (by unfold rightB; rw [h8])
      rw [hl]
      simp only [Result.andThen, Oper.upon]
      clear hl h8 Hm HB
      go_wp2_with (go_at_call 50; refine (right3_any _ _ e _ hE hP).mono ?_; rintro x w8 ⟨rfl, rfl⟩)
      all_goals
        go_ret
        first
          | exact ⟨ret_bool (by rw [HR.out]; simp [*] <;> omega), hbe⟩
          | exact ⟨ret_bool (by rw [HR.out]; simp [*] <;> omega), hbe.trans (hb8.mono hbe.size)⟩
    · have hl := lookup_in V7 B _ (.func (.func 51) #[] #[.pointer (some ⟨w.heap.size, 0, none⟩), .pointer (some ⟨w.heap.size + 1, 0, none⟩)]) e.K Hm.out (by omega) hK (by rw [h8]; rfl)
      have HR : Hid (rightB e = (kindB e 4 && decide (0 ≤ e.At) && decide (e.At ≤ 1099511627776))) := Lib.hid (by unfold rightB; rw [h8])
      rw [hl]
      simp only [Result.andThen, Oper.upon]
      clear hl h8 Hm HB
      go_wp2_with (go_at_call 51; refine (right4_any _ _ e _ hE hP).mono ?_; rintro x w8 ⟨rfl, rfl⟩)
      all_goals
        go_ret
        first
          | exact ⟨ret_bool (by rw [HR.out]; simp [*] <;> omega), hbe⟩
          | exact ⟨ret_bool (by rw [HR.out]; simp [*] <;> omega), hbe.trans (hb8.mono hbe.size)⟩
    · have hl := lookup_in V7 B _ (.func (.func 53) #[] #[.pointer (some ⟨w.heap.size, 0, none⟩), .pointer (some ⟨w.heap.size + 1, 0, none⟩)]) e.K Hm.out (by omega) hK (by rw [h8]; rfl)
      have HR : Hid (rightB e = (kindB e 5 && decide (0 ≤ e.At) && decide (e.At ≤ 1099511627776))) := Lib.hid (by unfold rightB; rw [h8])
      rw [hl]
      simp only [Result.andThen, Oper.upon]
      clear hl h8 Hm HB
      go_wp2_with (go_at_call 53; refine (right5_any _ _ e _ hE hP).mono ?_; rintro x w8 ⟨rfl, rfl⟩)
      all_goals
        go_ret
        first
          | exact ⟨ret_bool (by rw [HR.out]; simp [*] <;> omega), hbe⟩
          | exact ⟨ret_bool (by rw [HR.out]; simp [*] <;> omega), hbe.trans (hb8.mono hbe.size)⟩
    · have hl := lookup_in V7 B _ (.func (.func 54) #[] #[.pointer (some ⟨w.heap.size, 0, none⟩), .pointer (some ⟨w.heap.size + 1, 0, none⟩)]) e.K Hm.out (by omega) hK (by rw [h8]; rfl)
      have HR : Hid (rightB e = (kindB e 6 && decide (0 ≤ e.At) && decide (e.At ≤ 1099511627776))) := Lib.hid (by unfold rightB; rw [h8])
      rw [hl]
      simp only [Result.andThen, Oper.upon]
      clear hl h8 Hm HB
      go_wp2_with (go_at_call 54; refine (right6_any _ _ e _ hE hP).mono ?_; rintro x w8 ⟨rfl, rfl⟩)
      all_goals
        go_ret
        first
          | exact ⟨ret_bool (by rw [HR.out]; simp [*] <;> omega), hbe⟩
          | exact ⟨ret_bool (by rw [HR.out]; simp [*] <;> omega), hbe.trans (hb8.mono hbe.size)⟩
    · have hl := lookup_in V7 B _ (.func (.func 55) #[] #[.pointer (some ⟨w.heap.size, 0, none⟩), .pointer (some ⟨w.heap.size + 1, 0, none⟩)]) e.K Hm.out (by omega) hK (by rw [h8]; rfl)
      have HR : Hid (rightB e = (kindB e 7 && decide (0 ≤ e.At) && decide (e.At ≤ 1099511627776))) := Lib.hid (by unfold rightB; rw [h8])
      rw [hl]
      simp only [Result.andThen, Oper.upon]
      clear hl h8 Hm HB
      go_wp2_with (go_at_call 55; refine (right7_any _ _ e _ hE hP).mono ?_; rintro x w8 ⟨rfl, rfl⟩)
      all_goals
        go_ret
        first
          | exact ⟨ret_bool (by rw [HR.out]; simp [*] <;> omega), hbe⟩
          | exact ⟨ret_bool (by rw [HR.out]; simp [*] <;> omega), hbe.trans (hb8.mono hbe.size)⟩
    · have hl := lookup_out V7 B _ e.K Hm.out hK (by simp; omega)
      have hkf : kindB e e.K = false := by
        obtain ⟨k, hk⟩ : ∃ k, k = e.K := ⟨_, rfl⟩
        rw [← hk] at h8 ⊢
        unfold kindB
        split <;> first | rfl | omega
      have HR : Hid (rightB e = false) := Lib.hid (by unfold rightB; rw [hkf]; rfl)
      clear hkf
      rw [hl]
      simp only [Result.andThen, Oper.upon]
      clear hl h8 Hm HB
      go_wp2_with fail
      go_ret
      exact ⟨ret_bool (by rw [HR.out]), hbe⟩
  | true =>
    have hp : plainB e = e.S.isEmpty := by
      unfold plainB
      rw [hz]
      cases e.S <;> rfl
    have Hp := Lib.hid hp
    clear hp
    go_enter Try.func14, Try.ntmps14
    go_wp2_with fail
    generalize w.alloc (.cells #[.int .u8 (e.K : Int), .int .i64 e.At, .int .i64 e.N, .int .i64 e.P, .int .i64 e.A, .int .i64 e.B, .string (bstr e.S)] 24) = Wa at *
    have hpl : (Wa.alloc (.cells #[.bool (e.S.isEmpty)] 4)).cell? ⟨w.heap.size + 1, 0, none⟩ = some (.bool (plainB e)) := by
      rw [Hp.out]
      have := (sl_one Wa (.bool (e.S.isEmpty)) 4).cells 0 _ rfl
      obtain ⟨ad, h1, h2⟩ := this
      cases h1
      rw [hs0] at h2
      exact h2
    have hbb := below_alloc1 Wa (.cells #[.bool (e.S.isEmpty)] 4)
    have hs1 : (Wa.alloc (.cells #[.bool (e.S.isEmpty)] 4)).heap.size = w.heap.size + 2 := by simp [hs0]
    have hbox1 := hbox.below hbb
    have hbc := hb0.trans (hbb.mono hb0.size)
    clear hbb hbox hb0 hs0 hz
    generalize Wa.alloc (.cells #[.bool (e.S.isEmpty)] 4) = W0 at *
    have hmk := run_make W0
    have hm0 := make_is W0
    have hb1 := below_alloc1 W0 (.map #[] 0)
    have hbox2 := hbox1.below hb1
    have hpl2 : (W0.alloc (.map #[] 0)).cell? ⟨w.heap.size + 1, 0, none⟩ = some (.bool (plainB e)) := (World.cell?_of_block (hb1.block _ (World.block_lt_of_cell? _ _ hpl))).trans hpl
    have hbd := hbc.trans (hb1.mono hbc.size)
    rw [hs1] at hmk hm0
    clear hbc hb1 hbox1 hpl hs1
    generalize W0.alloc (.map #[] 0) = W1 at *
    obtain ⟨B, hB⟩ : ∃ B, B = w.heap.size + 2 := ⟨_, rfl⟩
    rw [← hB] at hmk hm0
    obtain ⟨V1, q1, m1, g1⟩ := insert_is W1 B _ (.func (.func 45) #[] #[.pointer (some ⟨w.heap.size, 0, none⟩)]) 1 hm0 rfl (by simp)
    obtain ⟨V2, q2, m2, g2⟩ := insert_is V1 B _ (.func (.func 47) #[] #[.pointer (some ⟨w.heap.size, 0, none⟩)]) 2 m1 rfl (by simp)
    obtain ⟨V3, q3, m3, g3⟩ := insert_is V2 B _ (.func (.func 50) #[] #[.pointer (some ⟨w.heap.size, 0, none⟩), .pointer (some ⟨w.heap.size + 1, 0, none⟩)]) 3 m2 rfl (by simp)
    obtain ⟨V4, q4, m4, g4⟩ := insert_is V3 B _ (.func (.func 51) #[] #[.pointer (some ⟨w.heap.size, 0, none⟩), .pointer (some ⟨w.heap.size + 1, 0, none⟩)]) 4 m3 rfl (by simp)
    obtain ⟨V5, q5, m5, g5⟩ := insert_is V4 B _ (.func (.func 53) #[] #[.pointer (some ⟨w.heap.size, 0, none⟩), .pointer (some ⟨w.heap.size + 1, 0, none⟩)]) 5 m4 rfl (by simp)
    obtain ⟨V6, q6, m6, g6⟩ := insert_is V5 B _ (.func (.func 54) #[] #[.pointer (some ⟨w.heap.size, 0, none⟩), .pointer (some ⟨w.heap.size + 1, 0, none⟩)]) 6 m5 rfl (by simp)
    obtain ⟨V7, q7, m7, g7⟩ := insert_is V6 B _ (.func (.func 55) #[] #[.pointer (some ⟨w.heap.size, 0, none⟩), .pointer (some ⟨w.heap.size + 1, 0, none⟩)]) 7 m6 rfl (by simp)
    have G := g1
    have G := grownBy_trans G g2
    have G := grownBy_trans G g3
    have G := grownBy_trans G g4
    have G := grownBy_trans G g5
    have G := grownBy_trans G g6
    have G := grownBy_trans G g7
    have hE := hbox2.grown G (by omega)
    have hP := cell_grown hpl2 G (by omega)
    have hbe : Below w.heap.size w V7 := hbd.grown G hbd.size (fun k hk => by cases hk; omega)
    have hE0 := hE 0 _ rfl
    have hE1 := hE 1 _ rfl
    clear g1 g2 g3 g4 g5 g6 g7 G m1 m2 m3 m4 m5 m6 hm0 hbox2 hpl2 hbd
    have HB := Lib.hid hB
    have Hm := Lib.hid m7
    clear hB m7
    rw [hmk]
    simp only [Result.andThen, Oper.upon]
    clear hmk
    go_wp2_with fail

    have h8 : e.K = 1 ∨ e.K = 2 ∨ e.K = 3 ∨ e.K = 4 ∨ e.K = 5 ∨ e.K = 6 ∨ e.K = 7 ∨ (e.K = 0 ∨ 7 < e.K) := by omega
    clear q1 q2 q3 q4 q5 q6 q7 Hp
    rcases h8 with h8 | h8 | h8 | h8 | h8 | h8 | h8 | h8
    · have hl := lookup_in V7 B _ (.func (.func 45) #[] #[.pointer (some ⟨w.heap.size, 0, none⟩)]) e.K Hm.out (by omega) hK (by rw [h8]; rfl)
      have HR : Hid (rightB e = (kindB e 1 && decide (0 ≤ e.At) && decide (e.At ≤ 1099511627776))) := Lib.hid (by unfold rightB; rw [h8])
      rw [hl]
      simp only [Result.andThen, Oper.upon]
      clear hl h8 Hm HB
      go_wp2_with (go_at_call 45; refine (right1_any _ e _ hE).mono ?_; rintro x w8 ⟨rfl, rfl⟩)
      all_goals
        go_ret
        first
          | exact ⟨ret_bool (by rw [HR.out]; simp [*] <;> omega), hbe⟩
          | exact ⟨ret_bool (by rw [HR.out]; simp [*] <;> omega), hbe.trans (hb8.mono hbe.size)⟩
    · have hl := lookup_in V7 B _ (.func (.func 47) #[] #[.pointer (some ⟨w.heap.size, 0, none⟩)]) e.K Hm.out (by omega) hK (by rw [h8]; rfl)
      have HR : Hid (rightB e = (kindB e 2 && decide (0 ≤ e.At) && decide (e.At ≤ 1099511627776))) := Lib.hid (by unfold rightB; rw [h8])
      rw [hl]
      simp only [Result.andThen, Oper.upon]
      clear hl h8 Hm HB
      go_wp2_with (go_at_call 47; refine (right2_any _ e _ hE).mono ?_; rintro x w8 ⟨rfl, hb8⟩)
      all_goals
        go_ret
        first
          | exact ⟨ret_bool (by rw [HR.out]; simp [*] <;> omega), hbe⟩
          | exact ⟨ret_bool (by rw [HR.out]; simp [*] <;> omega), hbe.trans (hb8.mono hbe.size)⟩
    · have hl := lookup_in V7 B _ (.func (.func 50) #[] #[.pointer (some ⟨w.heap.size, 0, none⟩), .pointer (some ⟨w.heap.size + 1, 0, none⟩)]) e.K Hm.out (by omega) hK (by rw [h8]; rfl)
      have HR : Hid (rightB e = (kindB e 3 && decide (0 ≤ e.At) && decide (e.At ≤ 1099511627776))) := Lib.hid (by unfold rightB; rw [h8])
      rw [hl]
      simp only [Result.andThen, Oper.upon]
      clear hl h8 Hm HB
      go_wp2_with (go_at_call 50; refine (right3_any _ _ e _ hE hP).mono ?_; rintro x w8 ⟨rfl, rfl⟩)
      all_goals
        go_ret
        first
          | exact ⟨ret_bool (by rw [HR.out]; simp [*] <;> omega), hbe⟩
          | exact ⟨ret_bool (by rw [HR.out]; simp [*] <;> omega), hbe.trans (hb8.mono hbe.size)⟩
    · have hl := lookup_in V7 B _ (.func (.func 51) #[] #[.pointer (some ⟨w.heap.size, 0, none⟩), .pointer (some ⟨w.heap.size + 1, 0, none⟩)]) e.K Hm.out (by omega) hK (by rw [h8]; rfl)
      have HR : Hid (rightB e = (kindB e 4 && decide (0 ≤ e.At) && decide (e.At ≤ 1099511627776))) := Lib.hid (by unfold rightB; rw [h8])
      rw [hl]
      simp only [Result.andThen, Oper.upon]
      clear hl h8 Hm HB
      go_wp2_with (go_at_call 51; refine (right4_any _ _ e _ hE hP).mono ?_; rintro x w8 ⟨rfl, rfl⟩)
      all_goals
        go_ret
        first
          | exact ⟨ret_bool (by rw [HR.out]; simp [*] <;> omega), hbe⟩
          | exact ⟨ret_bool (by rw [HR.out]; simp [*] <;> omega), hbe.trans (hb8.mono hbe.size)⟩
    · have hl := lookup_in V7 B _ (.func (.func 53) #[] #[.pointer (some ⟨w.heap.size, 0, none⟩), .pointer (some ⟨w.heap.size + 1, 0, none⟩)]) e.K Hm.out (by omega) hK (by rw [h8]; rfl)
      have HR : Hid (rightB e = (kindB e 5 && decide (0 ≤ e.At) && decide (e.At ≤ 1099511627776))) := Lib.hid (by unfold rightB; rw [h8])
      rw [hl]
      simp only [Result.andThen, Oper.upon]
      clear hl h8 Hm HB
      go_wp2_with (go_at_call 53; refine (right5_any _ _ e _ hE hP).mono ?_; rintro x w8 ⟨rfl, rfl⟩)
      all_goals
        go_ret
        first
          | exact ⟨ret_bool (by rw [HR.out]; simp [*] <;> omega), hbe⟩
          | exact ⟨ret_bool (by rw [HR.out]; simp [*] <;> omega), hbe.trans (hb8.mono hbe.size)⟩
    · have hl := lookup_in V7 B _ (.func (.func 54) #[] #[.pointer (some ⟨w.heap.size, 0, none⟩), .pointer (some ⟨w.heap.size + 1, 0, none⟩)]) e.K Hm.out (by omega) hK (by rw [h8]; rfl)
      have HR : Hid (rightB e = (kindB e 6 && decide (0 ≤ e.At) && decide (e.At ≤ 1099511627776))) := Lib.hid (by unfold rightB; rw [h8])
      rw [hl]
      simp only [Result.andThen, Oper.upon]
      clear hl h8 Hm HB
      go_wp2_with (go_at_call 54; refine (right6_any _ _ e _ hE hP).mono ?_; rintro x w8 ⟨rfl, rfl⟩)
      all_goals
        go_ret
        first
          | exact ⟨ret_bool (by rw [HR.out]; simp [*] <;> omega), hbe⟩
          | exact ⟨ret_bool (by rw [HR.out]; simp [*] <;> omega), hbe.trans (hb8.mono hbe.size)⟩
    · have hl := lookup_in V7 B _ (.func (.func 55) #[] #[.pointer (some ⟨w.heap.size, 0, none⟩), .pointer (some ⟨w.heap.size + 1, 0, none⟩)]) e.K Hm.out (by omega) hK (by rw [h8]; rfl)
      have HR : Hid (rightB e = (kindB e 7 && decide (0 ≤ e.At) && decide (e.At ≤ 1099511627776))) := Lib.hid (by unfold rightB; rw [h8])
      rw [hl]
      simp only [Result.andThen, Oper.upon]
      clear hl h8 Hm HB
      go_wp2_with (go_at_call 55; refine (right7_any _ _ e _ hE hP).mono ?_; rintro x w8 ⟨rfl, rfl⟩)
      all_goals
        go_ret
        first
          | exact ⟨ret_bool (by rw [HR.out]; simp [*] <;> omega), hbe⟩
          | exact ⟨ret_bool (by rw [HR.out]; simp [*] <;> omega), hbe.trans (hb8.mono hbe.size)⟩
    · have hl := lookup_out V7 B _ e.K Hm.out hK (by simp; omega)
      have hkf : kindB e e.K = false := by
        obtain ⟨k, hk⟩ : ∃ k, k = e.K := ⟨_, rfl⟩
        rw [← hk] at h8 ⊢
        unfold kindB
        split <;> first | rfl | omega
      have HR : Hid (rightB e = false) := Lib.hid (by unfold rightB; rw [hkf]; rfl)
      clear hkf
      rw [hl]
      simp only [Result.andThen, Oper.upon]
      clear hl h8 Hm HB
      go_wp2_with fail
      go_ret
      exact ⟨ret_bool (by rw [HR.out]), hbe⟩
end Go.Proofs.Ytphjmbhlokkdiaa
