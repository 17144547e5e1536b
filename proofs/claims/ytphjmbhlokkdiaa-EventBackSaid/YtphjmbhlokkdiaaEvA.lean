import Derived.Test.YtphjmbhlokkdiaaLawRow
import Derived.Test.YtphjmbhlokkdiaaRegionE
import Derived.Test.YtphjmbhlokkdiaaFrameLaw
import Derived.Test.YtphjmbhlokkdiaaLawApart
import Derived.Deep.CutBlock
import Derived.Deep.DeepCutAuto
import Derived.StillTailTactics
import Derived.Laws.OwnMore
namespace Go.Proofs.Ytphjmbhlokkdiaa
open Go.RowKit
set_option linter.unusedSimpArgs false
set_option linter.unusedVariables false

/-- an event -/
structure Ev where
  K : Nat
  At : Int
  N : Int
  P : Int
  A : Int
  B : Int
  S : List UInt8
def Ev.cells (e : Ev) : List Value := [.int .u8 (e.K : Int), .int .i64 e.At, .int .i64 e.N, .int .i64 e.P, .int .i64 e.A, .int .i64 e.B, .string (bstr e.S)]
def Ev.v (e : Ev) : Value := .agg e.cells.toArray
/-- an event in memory -/
def EvIn (w : World) (g : Nat) (e : Ev) : Prop := ∀ j u, e.cells[j]? = some u → w.cell? ⟨g, j, none⟩ = some u
theorem EvIn.below {w w' : World} {g : Nat} {e : Ev} (h : EvIn w g e) (hb : Below w.heap.size w w') : EvIn w' g e := fun j u hj => (World.cell?_of_block (hb.block _ (World.block_lt_of_cell? _ _ (h j u hj)))).trans (h j u hj)

def namedB (s : List UInt8) : Bool := decide (1 ≤ s.length) && decide (s.length ≤ 40)
def numberedB (n : Int) : Bool := decide (1 ≤ n) && decide (n ≤ 200)
def statusB (n : Int) : Bool := decide (0 ≤ n) && decide (n ≤ 3)

theorem ret_bool {a b : Bool} (h : a = true ↔ b = true) : Ending.returned (.bool a) = .returned (.bool b) := by rw [Bool.eq_iff_iff.2 h]

set_option maxHeartbeats 400000 in
theorem named_any (s : List UInt8) (w : World) : Calls Try.prog 46 #[.string (bstr s)] w fun e w' => e = .returned (.bool (namedB s)) ∧ w = w' := by
  have hsz : (bstr s).size = s.length := rfl
  unfold namedB
  go_enter Try.func46, Try.ntmps46
  go_wp2_with fail
  all_goals
    go_ret
    exact ⟨ret_bool (by simp <;> omega), rfl⟩
set_option maxHeartbeats 400000 in
theorem numbered_any (n : Int) (w : World) : Calls Try.prog 48 #[.int .i64 n] w fun e w' => e = .returned (.bool (numberedB n)) ∧ w = w' := by
  unfold numberedB
  go_enter Try.func48, Try.ntmps48
  go_wp2_with fail
  all_goals
    go_ret
    exact ⟨ret_bool (by simp <;> omega), rfl⟩
set_option maxHeartbeats 400000 in
theorem status_any (n : Int) (w : World) : Calls Try.prog 52 #[.int .i64 n] w fun e w' => e = .returned (.bool (statusB n)) ∧ w = w' := by
  unfold statusB
  go_enter Try.func52, Try.ntmps52
  go_wp2_with fail
  all_goals
    go_ret
    exact ⟨ret_bool (by simp <;> omega), rfl⟩

def plainB (e : Ev) : Bool := (e.B == 0) && (e.S.length == 0)
def beginB (e : Ev) : Bool :=
  if e.P = 1 then namedB e.S && decide (0 ≤ e.B) && decide (e.B < 20)
  else if e.P = 2 then (e.S.length == 0) && decide (0 ≤ e.A) && (e.B == 0)
  else if e.P = 3 then namedB e.S && (e.B == 0)
  else false
def kindB (e : Ev) : Nat → Bool
  | 1 => namedB e.S && (e.N == 0) && (e.P == 0) && (e.B == 0)
  | 2 => numberedB e.N && decide (0 ≤ e.P) && decide (e.P ≤ 3) && beginB e
  | 3 => numberedB e.N && decide (1 ≤ e.P) && decide (e.P ≤ 100) && (e.A == 0) && plainB e
  | 4 => numberedB e.N && statusB e.P && plainB e
  | 5 => (e.N == 0) && (e.P == 0) && plainB e
  | 6 => (e.N == 0) && (e.P == 0) && (e.A == 0) && plainB e
  | 7 => (e.N == 0) && statusB e.P && plainB e
  | _ => false

set_option maxHeartbeats 400000 in
theorem right1_any (g : Nat) (e : Ev) (w : World) (h : EvIn w g e) : Calls Try.prog 45 #[.pointer (some ⟨g, 0, none⟩)] w fun x w' => x = .returned (.bool (kindB e 1)) ∧ w = w' := by
  have h2 := h 2 _ rfl
  have h3 := h 3 _ rfl
  have h5 := h 5 _ rfl
  have h6 := h 6 _ rfl
  unfold kindB
  clear h
  go_enter Try.func45, Try.ntmps45
  go_wp2_with (go_at_call 46; refine (named_any _ _).mono ?_; rintro x w' ⟨rfl, rfl⟩)
  all_goals
    go_ret
    exact ⟨ret_bool (by simp [*] <;> omega), rfl⟩

set_option maxHeartbeats 1000000 in
theorem begin_any (e : Ev) (w : World) (h0 : 0 ≤ e.P) (h1 : e.P ≤ 3) : Calls Try.prog 49 #[e.v] w fun x w' => x = .returned (.bool (beginB e)) ∧ Below w.heap.size w w' := by
  obtain ⟨K, At, N, P, A, B, S⟩ := e
  simp only at h0 h1
  have hP : P = 0 ∨ P = 1 ∨ P = 2 ∨ P = 3 := by omega
  unfold beginB Ev.v Ev.cells
  rcases hP with rfl | rfl | rfl | rfl
  all_goals
    go_enter Try.func49, Try.ntmps49
    go_wp2_with (go_at_call 46; refine (named_any _ _).mono ?_; rintro x w' ⟨rfl, rfl⟩)
    all_goals
      go_ret
      exact ⟨ret_bool (by simp [*] <;> omega), below_alloc1 _ _⟩
set_option maxHeartbeats 400000 in
theorem right3_any (g h0 : Nat) (e : Ev) (w : World) (h : EvIn w g e) (hp : w.cell? ⟨h0, 0, none⟩ = some (.bool (plainB e))) : Calls Try.prog 50 #[.pointer (some ⟨g, 0, none⟩), .pointer (some ⟨h0, 0, none⟩)] w fun x w' => x = .returned (.bool (kindB e 3)) ∧ w = w' := by
  have h2 := h 2 _ rfl
  have h3 := h 3 _ rfl
  have h4 := h 4 _ rfl
  unfold kindB
  clear h
  go_enter Try.func50, Try.ntmps50
  go_wp2_with (go_at_call 48; refine (numbered_any _ _).mono ?_; rintro x w' ⟨rfl, rfl⟩)
  all_goals
    go_ret
    exact ⟨ret_bool (by simp [*] <;> omega), rfl⟩
set_option maxHeartbeats 400000 in
theorem right4_any (g h0 : Nat) (e : Ev) (w : World) (h : EvIn w g e) (hp : w.cell? ⟨h0, 0, none⟩ = some (.bool (plainB e))) : Calls Try.prog 51 #[.pointer (some ⟨g, 0, none⟩), .pointer (some ⟨h0, 0, none⟩)] w fun x w' => x = .returned (.bool (kindB e 4)) ∧ w = w' := by
  have h2 := h 2 _ rfl
  have h3 := h 3 _ rfl
  unfold kindB
  clear h
  go_enter Try.func51, Try.ntmps51
  go_wp2_with (first | (go_at_call 48; refine (numbered_any _ _).mono ?_; rintro x w' ⟨rfl, rfl⟩) | (go_at_call 52; refine (status_any _ _).mono ?_; rintro x w' ⟨rfl, rfl⟩))
  all_goals
    go_ret
    exact ⟨ret_bool (by simp [*] <;> omega), rfl⟩
set_option maxHeartbeats 400000 in
theorem right5_any (g h0 : Nat) (e : Ev) (w : World) (h : EvIn w g e) (hp : w.cell? ⟨h0, 0, none⟩ = some (.bool (plainB e))) : Calls Try.prog 53 #[.pointer (some ⟨g, 0, none⟩), .pointer (some ⟨h0, 0, none⟩)] w fun x w' => x = .returned (.bool (kindB e 5)) ∧ w = w' := by
  have h2 := h 2 _ rfl
  have h3 := h 3 _ rfl
  unfold kindB
  clear h
  go_enter Try.func53, Try.ntmps53
  go_wp2_with fail
  all_goals
    go_ret
    exact ⟨ret_bool (by simp [*] <;> omega), rfl⟩
set_option maxHeartbeats 400000 in
theorem right6_any (g h0 : Nat) (e : Ev) (w : World) (h : EvIn w g e) (hp : w.cell? ⟨h0, 0, none⟩ = some (.bool (plainB e))) : Calls Try.prog 54 #[.pointer (some ⟨g, 0, none⟩), .pointer (some ⟨h0, 0, none⟩)] w fun x w' => x = .returned (.bool (kindB e 6)) ∧ w = w' := by
  have h2 := h 2 _ rfl
  have h3 := h 3 _ rfl
  have h4 := h 4 _ rfl
  unfold kindB
  clear h
  go_enter Try.func54, Try.ntmps54
  go_wp2_with fail
  all_goals
    go_ret
    exact ⟨ret_bool (by simp [*] <;> omega), rfl⟩
set_option maxHeartbeats 400000 in
theorem right7_any (g h0 : Nat) (e : Ev) (w : World) (h : EvIn w g e) (hp : w.cell? ⟨h0, 0, none⟩ = some (.bool (plainB e))) : Calls Try.prog 55 #[.pointer (some ⟨g, 0, none⟩), .pointer (some ⟨h0, 0, none⟩)] w fun x w' => x = .returned (.bool (kindB e 7)) ∧ w = w' := by
  have h2 := h 2 _ rfl
  have h3 := h 3 _ rfl
  unfold kindB
  clear h
  go_enter Try.func55, Try.ntmps55
  go_wp2_with (go_at_call 52; refine (status_any _ _).mono ?_; rintro x w' ⟨rfl, rfl⟩)
  all_goals
    go_ret
    exact ⟨ret_bool (by simp [*] <;> omega), rfl⟩

set_option maxHeartbeats 1000000 in
theorem right2_any (g : Nat) (e : Ev) (w : World) (h : EvIn w g e) : Calls Try.prog 47 #[.pointer (some ⟨g, 0, none⟩)] w fun x w' => x = .returned (.bool (kindB e 2)) ∧ Below w.heap.size w w' := by
  have h0 := h 0 _ rfl
  have h1 := h 1 _ rfl
  have h2 := h 2 _ rfl
  have h3 := h 3 _ rfl
  have h4 := h 4 _ rfl
  have h5 := h 5 _ rfl
  have h6 := h 6 _ rfl
  unfold kindB
  go_enter Try.func47, Try.ntmps47
  go_wp2_with (first | (go_at_call 48; refine (numbered_any _ _).mono ?_; rintro x w' ⟨rfl, rfl⟩) | (go_at_call 49; refine (begin_any e _ (by omega) (by omega)).mono ?_; rintro x w2 ⟨rfl, hb⟩))
  all_goals
    go_ret
    first
      | exact ⟨ret_bool (by simp [*] <;> omega), hb⟩
      | exact ⟨ret_bool (by simp [*] <;> omega), Below.refl _ _⟩
end Go.Proofs.Ytphjmbhlokkdiaa
