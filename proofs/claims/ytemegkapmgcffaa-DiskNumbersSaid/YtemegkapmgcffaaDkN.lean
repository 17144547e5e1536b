import Derived.Test.YtemegkapmgcffaaDkK
/- The disk: New, told. -/
namespace Go.Proofs.Ytemegkapmgcffaa
open Go.RowKit
set_option linter.unusedSimpArgs false
set_option linter.unusedVariables false

def newD (room : Int) : Dk := ⟨room, -1, false, []⟩
theorem good_new {room : Int} (h : 0 ≤ room ∧ room ≤ 16777216) : Good (newD room) := by
  refine ⟨fun i j x y _ hx _ => ?_, h, by simp [newD], by simp [newD], fun f hf => by simp [newD] at hf, by simp [newD, usedF]; exact h.1, fun f hf => by simp [newD] at hf⟩
  simp [newD] at hx
theorem own_nilD (base : Nat) (w : World) : Own base 117 3 w none 0 0 (flatFE []) := ⟨rfl, .inl ⟨rfl, rfl⟩⟩
set_option maxRecDepth 100000 in
set_option maxHeartbeats 1000000 in
theorem New_ok {base : Nat} (room : Int) (w : World) (h : 0 ≤ room ∧ room ≤ 16777216) (hbase : base ≤ w.heap.size) :
    Calls Try.prog 28 #[.int .i64 room] w fun x w' => ∃ p F, x = .returned (.tuple #[.pointer (some ⟨p, 0, none⟩), .int .i64 0]) ∧ DkIs w' base p (newD room) F ∧ (∀ q, F q → w.heap.size ≤ q) ∧ Below w.heap.size w w' := by
  have h1 : ¬ (room < 0) := by omega
  have h2 : ¬ (16777216 < room) := by omega
  have hb := below_alloc1 w (.cells #[.slice none 0 0, .int .i64 room, .int .i64 (-1), .bool false, .func (.func 78) #[] #[]] 38)
  have hown := new_own w [.slice none 0 0, .int .i64 room, .int .i64 (-1), .bool false, .func (.func 78) #[] #[]] 38 5 rfl (by unfold maxLen; omega)
  have Hb := Lib.hid hb
  have Hown := Lib.hid hown
  clear hb hown
  go_enter Try.func28, Try.ntmps28
  go_wp2_with fail
  go_ret2
  refine ⟨w.heap.size, rfl, fun q => q = w.heap.size, ⟨none, 0, [], ⟨Own.lower Hown.out hbase, own_nilD _ _, fun e he => by simp at he, rfl, good_new h, rfl, fun a ha => (by cases ha), fun k hk => (by have hk2 : k = w.heap.size := hk; subst hk2; exact ⟨hbase, by simp⟩)⟩⟩, fun q hq => Nat.le_of_eq (Eq.symm hq), Hb.out⟩
set_option maxHeartbeats 1000000 in
theorem New_bad (room : Int) (w : World) (h : room < 0 ∨ 16777216 < room) :
    Calls Try.prog 28 #[.int .i64 room] w fun x w' => x = .returned (.tuple #[.pointer none, .int .i64 2]) ∧ Below w.heap.size w w' := by
  by_cases h1 : room < 0
  · have h2 : decide (room < 0) = true := by simpa using h1
    go_enter Try.func28, Try.ntmps28
    go_wp2_with fail
    go_ret2
    exact ⟨rfl, Below.refl _ _⟩
  · have h2 : decide (room < 0) = false := by simpa using h1
    have h3 : decide (16777216 < room) = true := by simp; omega
    go_enter Try.func28, Try.ntmps28
    go_wp2_with fail
    go_ret2
    exact ⟨rfl, Below.refl _ _⟩
/-- told: a list of numbers, read past its end as 0 -/
theorem told_any (A : Option Addr) (n c : Nat) (l : List Int) (i : Nat) (w : World) (hs : Sl w 1 A n c (l.map fun x => .int .i64 x)) (hn : n ≤ 9223372036854775807) :
    Calls Try.prog 95 #[.slice A n c, .int .i64 (i : Int)] w fun x w' => x = .returned (.int .i64 (toldI l i)) ∧ w = w' := by
  have hl : l.length = n := by have := hs.len; simpa using this
  have HT := Lib.hid (show toldI l i = match l[i]? with | some x => if x < 0 then 0 else x | none => 0 from rfl)
  by_cases hi : n ≤ i
  · have h1 : decide ((n : Int) ≤ (i : Int)) = true := by simpa using hi
    go_enter Try.func95, Try.ntmps95
    go_wp2_with fail
    go_ret
    exact ⟨by rw [HT.out, List.getElem?_eq_none (by omega)]; rfl, rfl⟩
  · have h1 : decide ((n : Int) ≤ (i : Int)) = false := by simp; omega
    obtain ⟨x, hx⟩ : ∃ x, l[i]? = some x := ⟨_, List.getElem?_eq_getElem (by omega)⟩
    obtain ⟨a, rfl, hc⟩ := hs.cells i (.int .i64 x) (by rw [List.getElem?_map, hx]; rfl)
    have hin : (0 : Int) ≤ (i : Int) ∧ (i : Int) < (n : Int) := by omega
    by_cases h0 : x < 0
    · have h2 : decide (x < 0) = true := by simpa using h0
      go_enter Try.func95, Try.ntmps95
      go_wp2_with fail
      go_ret
      exact ⟨by rw [HT.out, hx]; simp only [if_pos h0]; rfl, rfl⟩
    · have h2 : decide (x < 0) = false := by simpa using h0
      go_enter Try.func95, Try.ntmps95
      go_wp2_with fail
      go_ret
      exact ⟨by rw [HT.out, hx]; simp only [if_neg (show ¬ (x < 0) by omega)]; rfl, rfl⟩
end Go.Proofs.Ytemegkapmgcffaa
