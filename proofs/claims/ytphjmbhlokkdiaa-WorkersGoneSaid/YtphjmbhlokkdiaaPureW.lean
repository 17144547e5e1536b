import Derived.Test.YtphjmbhlokkdiaaPWorkersTellx3
import Derived.Test.YtphjmbhlokkdiaaPWorkersTellx4
import Derived.Test.YtphjmbhlokkdiaaLibN
/- Plain, for the workers: what the printed functions answer. -/
namespace Go.Proofs.Ytphjmbhlokkdiaa
open Go.RowKit Go.Proofs.YtphjmbhlokkdiaaW.PrintWords Go.Proofs.YtphjmbhlokkdiaaW.PrintLast Go.Proofs.YtphjmbhlokkdiaaW.PrintMore
set_option linter.unusedSimpArgs false
set_option linter.unusedVariables false

abbrev Wk := PWorkersTell.S115
def wkC (x : Wk) : List Value := [.int .i64 x.f0, .int .i64 x.f1]
def flatW (xs : List Wk) : List Value := xs.flatMap wkC
theorem flatW_len (xs : List Wk) : (flatW xs).length = xs.length * 2 := flatMap_len wkC 2 (fun _ => rfl) xs
theorem wk_one (xs : List Wk) : ∀ u ∈ flatW xs, u.oneCell' = true := by
  intro u hu
  simp only [flatW, List.mem_flatMap, wkC, List.mem_cons, List.not_mem_nil, or_false] at hu
  obtain ⟨t, _, rfl | rfl⟩ := hu <;> rfl

def chkW : Int → List Wk → Bool
  | _, [] => true
  | last, x :: r => decide (last < x.f0) && (decide (0 ≤ x.f1) && (decide (x.f1 ≤ 1099511627776) && chkW x.f0 r))
def rightW (xs : List Wk) : Bool := chkW 0 xs && decide (xs.length ≤ 50)
theorem rdW {xs : List Wk} {i : Nat} {x : Wk} (h : xs[i]? = some x) : PWorkersTell.rd_T115 xs (i : Int) = x := by
  unfold PWorkersTell.rd_T115
  rw [Int.toNat_natCast, List.getD_eq_getElem?_getD, h]; rfl
theorem drop_at {α : Type} {xs : List α} {i : Nat} {x : α} (h : xs[i]? = some x) : xs.drop i = x :: xs.drop (i + 1) := by
  obtain ⟨h1, h2⟩ := List.getElem?_eq_some_iff.1 h
  rw [← h2, ← List.drop_eq_getElem_cons h1]
theorem get_at {α : Type} (xs : List α) (i : Nat) (h : i < xs.length) : ∃ x, xs[i]? = some x := ⟨xs[i], List.getElem?_eq_getElem h⟩
theorem wrapS {i : Nat} (h : i < 1000000) : wrap64 ((i : Int) + 1) = ((i + 1 : Nat) : Int) := by unfold wrap64; omega

theorem rright_l0 (xs : List Wk) (hl : xs.length ≤ 50) : ∀ (d k i : Nat) (last : Int), i ≤ xs.length → xs.length - i = d → d < k → (i = 0 → last = 0) → (∀ y, 0 < i → xs[i - 1]? = some y → last = y.f0 ∧ 1 ≤ y.f0) →
    PWorkersTell.millwheelref19_Right.l0 k xs (i : Int) = some (chkW last (xs.drop i)) := by
  intro d
  induction d with
  | zero =>
    intro k i last hi hd hk _ _
    obtain ⟨k, rfl⟩ : ∃ m, k = m + 1 := ⟨k - 1, by omega⟩
    rw [List.drop_of_length_le (by omega)]
    simp only [PWorkersTell.millwheelref19_Right.l0]
    rw [if_neg (by omega)]
    simp [chkW]
  | succ d ih =>
    intro k i last hi hd hk hl0 hl1
    obtain ⟨k, rfl⟩ : ∃ m, k = m + 1 := ⟨k - 1, by omega⟩
    obtain ⟨x, hx⟩ := get_at xs i (by omega)
    rw [drop_at hx, chkW]
    simp only [PWorkersTell.millwheelref19_Right.l0]
    rw [if_pos (by omega), if_pos (by omega), rdW hx]
    have hlast : 0 ≤ last := by
      by_cases h0 : i = 0
      · have := hl0 h0; omega
      · obtain ⟨y, hy⟩ := get_at xs (i - 1) (by omega)
        have := hl1 y (by omega) hy; omega
    by_cases h1 : x.f0 < 1
    · rw [if_pos h1]; simp [show ¬ last < x.f0 by omega]
    · rw [if_neg h1]
      have hrest : ∀ (q : Bool), q = decide (last < x.f0) → (q = true → last < x.f0) → q = true →
          (if x.f1 < 0 then some false else if x.f1 > 1099511627776 then some false else PWorkersTell.millwheelref19_Right.l0 k xs (wrap64 ((i : Int) + 1))) = some (decide (last < x.f0) && (decide (0 ≤ x.f1) && (decide (x.f1 ≤ 1099511627776) && chkW x.f0 (xs.drop (i + 1))))) := by
        intro q _ hq hqt
        have hlt := hq hqt
        by_cases h2 : x.f1 < 0
        · rw [if_pos h2]; simp [show ¬ 0 ≤ x.f1 by omega]
        · rw [if_neg h2]
          by_cases h3 : x.f1 > 1099511627776
          · rw [if_pos h3]; simp [show ¬ x.f1 ≤ 1099511627776 by omega]
          · rw [if_neg h3, wrapS (by omega), ih k (i + 1) x.f0 (by omega) (by omega) (by omega) (by omega) (fun y _ hy => by
              rw [Nat.add_sub_cancel, hx] at hy; cases hy; exact ⟨rfl, by omega⟩)]
            simp [hlt, show 0 ≤ x.f1 by omega, show x.f1 ≤ 1099511627776 by omega]
      by_cases h0 : i = 0
      · have hl := hl0 h0
        rw [if_neg (by omega)]
        exact hrest true (by simp; omega) (fun _ => by omega) rfl
      · obtain ⟨y, hy⟩ := get_at xs (i - 1) (by omega)
        obtain ⟨hy1, hy2⟩ := hl1 y (by omega) hy
        have hw : wrap64 ((i : Int) - 1) = ((i - 1 : Nat) : Int) := by unfold wrap64; omega
        rw [if_pos (by omega), hw, if_pos (by omega), if_pos (by omega), rdW hy, ← hy1]
        by_cases h4 : x.f0 ≤ last
        · rw [if_pos h4]; simp [show ¬ last < x.f0 by omega]
        · rw [if_neg h4]
          exact hrest true (by simp; omega) (fun _ => by omega) rfl
theorem rright_f (xs : List Wk) (k : Nat) (hk : xs.length < k) : PWorkersTell.millwheelref19_Right.f k xs = some (rightW xs) := by
  unfold PWorkersTell.millwheelref19_Right.f rightW
  by_cases h : (xs.length : Int) > 50
  · rw [if_pos h]; simp [show ¬ xs.length ≤ 50 by omega]
  · rw [if_neg h]
    have := rright_l0 xs (by omega) xs.length k 0 0 (by omega) (by omega) hk (fun _ => rfl) (fun y h => by omega)
    simpa [show xs.length ≤ 50 by omega] using this

def knownW (xs : List Wk) (id : Int) : Bool := xs.any fun x => decide (x.f0 = id)
theorem rknown_l0 (xs : List Wk) (id : Int) (hl : xs.length ≤ 100000) : ∀ (d k i : Nat), i ≤ xs.length → xs.length - i = d → d < k →
    PWorkersTell.millwheelref19_Known.l0 k xs id (i : Int) = some (knownW (xs.drop i) id) := by
  intro d
  induction d with
  | zero =>
    intro k i hi hd hk
    obtain ⟨k, rfl⟩ : ∃ m, k = m + 1 := ⟨k - 1, by omega⟩
    rw [List.drop_of_length_le (by omega)]
    simp only [PWorkersTell.millwheelref19_Known.l0]
    rw [if_neg (by omega)]
    simp [knownW]
  | succ d ih =>
    intro k i hi hd hk
    obtain ⟨k, rfl⟩ : ∃ m, k = m + 1 := ⟨k - 1, by omega⟩
    obtain ⟨x, hx⟩ := get_at xs i (by omega)
    rw [drop_at hx]
    simp only [PWorkersTell.millwheelref19_Known.l0]
    rw [if_pos (by omega), if_pos (by omega), rdW hx]
    by_cases h1 : x.f0 = id
    · rw [if_pos h1]; simp [knownW, h1]
    · rw [if_neg h1, wrapS (by omega), ih k (i + 1) (by omega) (by omega) (by omega)]
      simp [knownW, h1]
theorem rknown_f (xs : List Wk) (id : Int) (hl : xs.length ≤ 100000) (k : Nat) (hk : xs.length < k) : PWorkersTell.millwheelref19_Known.f k xs id = some (knownW xs id) := by
  have := rknown_l0 xs id hl xs.length k 0 (by omega) (by omega) hk
  simpa [PWorkersTell.millwheelref19_Known.f] using this

def errStateW : Int := 112
def leaveW (xs : List Wk) (id : Int) : List Wk × Int := if rightW xs then (if knownW xs id then (xs.filter (fun x => !decide (x.f0 = id)), 0) else (xs, 110)) else (xs, 112)
theorem rleave_l0 (xs : List Wk) (id : Int) (hl : xs.length ≤ 100000) : ∀ (d k i : Nat) (acc : List Wk), i ≤ xs.length → xs.length - i = d → d < k → acc.length ≤ i →
    PWorkersTell.millwheelref19_Leave.l0 k xs id acc (i : Int) = some (acc ++ (xs.drop i).filter (fun x => !decide (x.f0 = id)), 0) := by
  intro d
  induction d with
  | zero =>
    intro k i acc hi hd hk ha
    obtain ⟨k, rfl⟩ : ∃ m, k = m + 1 := ⟨k - 1, by omega⟩
    rw [List.drop_of_length_le (by omega)]
    simp only [PWorkersTell.millwheelref19_Leave.l0]
    rw [if_neg (by omega)]
    simp
  | succ d ih =>
    intro k i acc hi hd hk ha
    obtain ⟨k, rfl⟩ : ∃ m, k = m + 1 := ⟨k - 1, by omega⟩
    obtain ⟨x, hx⟩ := get_at xs i (by omega)
    rw [drop_at hx]
    simp only [PWorkersTell.millwheelref19_Leave.l0]
    rw [if_pos (by omega), if_pos (by omega), rdW hx]
    by_cases h1 : x.f0 = id
    · rw [if_pos h1, wrapS (by omega), ih k (i + 1) acc (by omega) (by omega) (by omega) (by omega)]
      simp [h1]
    · rw [if_neg h1, if_pos (by omega), wrapS (by omega), ih k (i + 1) _ (by omega) (by omega) (by omega) (by simp; omega)]
      simp [h1]
theorem rleave_f (xs : List Wk) (id : Int) (hl : xs.length ≤ 100000) (k : Nat) (hk : xs.length < k) : PWorkersTell.millwheelref19_Leave.f k xs id = some (leaveW xs id) := by
  unfold PWorkersTell.millwheelref19_Leave.f leaveW
  rw [rright_f xs k hk, Option.bind_some]
  by_cases h1 : rightW xs = true
  · rw [if_pos h1, if_pos h1, rknown_f xs id hl k hk, Option.bind_some]
    by_cases h2 : knownW xs id = true
    · rw [if_pos h2, if_pos h2]
      have := rleave_l0 xs id hl xs.length k 0 [] (by omega) (by omega) hk (by simp)
      simpa using this
    · rw [if_neg h2, if_neg h2, Option.bind_some, if_pos (by simp; omega)]
      simp
  · rw [if_neg h1, if_neg h1, Option.bind_some, if_pos (by simp; omega)]
    simp

def plusW (a b : Int) : Int := mn ((mn (mx a 0) 1099511627776) + (mn (mx b 0) 1099511627776)) 1099511627776
theorem rplus_f (a b : Int) (k : Nat) (hk : 0 < k) : PWorkersTell.millwheelref14_Plus.f k a b = some (plusW a b) := by
  obtain ⟨k, rfl⟩ : ∃ m, k = m + 1 := ⟨k - 1, by omega⟩
  have key : ∀ x : Int, 0 ≤ x → PWorkersTell.millwheelref14_Plus.j0 (k + 1) x b = some (mn ((mn x 1099511627776) + (mn (mx b 0) 1099511627776)) 1099511627776) := by
    intro x hx
    simp only [PWorkersTell.millwheelref14_Plus.j0]
    unfold mn mx
    by_cases h1 : b < 0
    · rw [if_pos h1, if_pos h1]
      by_cases h2 : x > 1099511627776
      · rw [if_pos h2]; simp only [Option.some.injEq]; split <;> split <;> split <;> omega
      · have hw : wrap64 (1099511627776 - x) = 1099511627776 - x := by unfold wrap64; omega
        have hw2 : wrap64 (x + 0) = x := by unfold wrap64; omega
        rw [if_neg h2, hw, hw2, if_neg (by omega)]; simp only [Option.some.injEq]; split <;> split <;> split <;> omega
    · rw [if_neg h1, if_neg h1]
      by_cases h2 : x > 1099511627776
      · rw [if_pos h2]; simp only [Option.some.injEq]; split <;> split <;> split <;> omega
      · have hw : wrap64 (1099511627776 - x) = 1099511627776 - x := by unfold wrap64; omega
        rw [if_neg h2, hw]
        by_cases h3 : b > 1099511627776 - x
        · rw [if_pos h3]; simp only [Option.some.injEq]; split <;> split <;> split <;> omega
        · have hw2 : wrap64 (x + b) = x + b := by unfold wrap64; omega
          rw [if_neg h3, hw2]; simp only [Option.some.injEq]; split <;> split <;> split <;> omega
  unfold PWorkersTell.millwheelref14_Plus.f plusW
  by_cases h : a < 0
  · rw [if_pos h, key 0 (by omega)]; congr 3; unfold mx mn; rw [if_pos h]
  · rw [if_neg h, key a (by omega)]; congr 3; unfold mx; rw [if_neg h]

def goneL (xs : List Wk) (now most : Int) : List Int := (xs.filter (fun x => decide (plusW x.f1 most < now))).map (·.f0)
def goneW (xs : List Wk) (now most : Int) : List Int := if rightW xs && decide (0 ≤ most) then goneL xs now most else []
theorem rgone_l0 (xs : List Wk) (now most : Int) (hr : rightW xs = true) (h0 : 0 ≤ most) (hl : xs.length ≤ 100000) : ∀ (d k i : Nat) (acc : List Int), i ≤ xs.length → xs.length - i = d → 2 * d + xs.length + 2 < k → acc.length ≤ i →
    PWorkersTell.millwheelref19_Gone.l0 k xs now most acc (i : Int) = some (acc ++ goneL (xs.drop i) now most) := by
  intro d
  induction d with
  | zero =>
    intro k i acc hi hd hk ha
    obtain ⟨k, rfl⟩ : ∃ m, k = m + 2 := ⟨k - 2, by omega⟩
    rw [List.drop_of_length_le (by omega)]
    simp only [PWorkersTell.millwheelref19_Gone.l0]
    rw [if_neg (by omega)]
    simp [goneL, PWorkersTell.millwheelref19_Gone.j1]
  | succ d ih =>
    intro k i acc hi hd hk ha
    obtain ⟨k, rfl⟩ : ∃ m, k = m + 2 := ⟨k - 2, by omega⟩
    obtain ⟨x, hx⟩ := get_at xs i (by omega)
    rw [drop_at hx]
    simp only [PWorkersTell.millwheelref19_Gone.l0]
    rw [if_pos (by omega), rright_f xs (k + 1) (by omega), Option.bind_some, if_pos hr]
    simp only [PWorkersTell.millwheelref19_Gone.j1]
    rw [if_pos (by simpa using h0), if_pos (by omega), if_pos (by omega), rdW hx, rplus_f _ _ k (by omega), Option.bind_some]
    by_cases h1 : plusW x.f1 most < now
    · rw [if_pos h1, if_pos (by omega), wrapS (by omega), ih k (i + 1) _ (by omega) (by omega) (by omega) (by simp; omega)]
      simp [goneL, h1]
    · rw [if_neg h1, wrapS (by omega), ih k (i + 1) _ (by omega) (by omega) (by omega) (by omega)]
      simp [goneL, h1]
theorem rgone_f (xs : List Wk) (now most : Int) (hl : xs.length ≤ 100000) (k : Nat) (hk : 3 * xs.length + 4 < k) : PWorkersTell.millwheelref19_Gone.f k xs now most = some (goneW xs now most) := by
  unfold PWorkersTell.millwheelref19_Gone.f goneW
  by_cases h : rightW xs = true ∧ 0 ≤ most
  · have := rgone_l0 xs now most h.1 h.2 hl xs.length k 0 [] (by omega) (by omega) (by omega) (by simp)
    simpa [h.1, h.2] using this
  · have hf : (rightW xs && decide (0 ≤ most)) = false := by
      cases hr : rightW xs with
      | false => rfl
      | true => simp only [Bool.true_and, decide_eq_false_iff_not]; exact fun h0 => h ⟨hr, h0⟩
    obtain ⟨k, rfl⟩ : ∃ m, k = m + 2 := ⟨k - 2, by omega⟩
    rw [hf]
    simp only [PWorkersTell.millwheelref19_Gone.l0]
    by_cases hz : (0 : Int) < (xs.length : Int)
    · rw [if_pos hz, rright_f xs (k + 1) (by omega), Option.bind_some]
      cases hr : rightW xs with
      | true =>
        have : ¬ (most ≥ 0) := fun h0 => h ⟨hr, h0⟩
        simp [PWorkersTell.millwheelref19_Gone.j1, this]
      | false => simp [PWorkersTell.millwheelref19_Gone.j1]
    · rw [if_neg hz]; simp [PWorkersTell.millwheelref19_Gone.j1]

theorem wsame_l0 (xs ys : List Wk) (hx : xs = ys) (hl : xs.length ≤ 100000) : ∀ (d k i : Nat), i ≤ xs.length → xs.length - i = d → d < k →
    PWorkersTell.millwheellaw19_Same.l0 k xs ys (xs.length : Int) (i : Int) = some true := by
  subst hx
  intro d
  induction d with
  | zero =>
    intro k i hi hd hk
    obtain ⟨k, rfl⟩ : ∃ m, k = m + 1 := ⟨k - 1, by omega⟩
    simp only [PWorkersTell.millwheellaw19_Same.l0]
    rw [if_neg (by omega)]
  | succ d ih =>
    intro k i hi hd hk
    obtain ⟨k, rfl⟩ : ∃ m, k = m + 1 := ⟨k - 1, by omega⟩
    simp only [PWorkersTell.millwheellaw19_Same.l0]
    rw [if_pos (by omega), if_pos (by omega), if_pos (by omega), if_pos (by omega), if_neg (by simp), wrapS (by omega)]
    exact ih k (i + 1) (by omega) (by omega) (by omega)
theorem wsame_f (xs : List Wk) (hl : xs.length ≤ 100000) (k : Nat) (hk : xs.length < k) : PWorkersTell.millwheellaw19_Same.f k xs xs = some true := by
  unfold PWorkersTell.millwheellaw19_Same.f
  rw [if_pos rfl]
  exact wsame_l0 xs xs rfl hl xs.length k 0 (by omega) (by omega) hk
end Go.Proofs.Ytphjmbhlokkdiaa
