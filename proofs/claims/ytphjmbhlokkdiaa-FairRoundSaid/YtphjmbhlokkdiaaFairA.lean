import Derived.Test.YtphjmbhlokkdiaaFairU
import Derived.Maps.OwnOps
import Derived.Maps.Views
namespace Go.Proofs.Ytphjmbhlokkdiaa
open Go.RowKit
set_option linter.unusedSimpArgs false
set_option linter.unusedVariables false

/-- a queue that is served by turns -/
structure Tn where
  N : List UInt8
  W : Int
  L : Int
deriving DecidableEq
def Tn.cells (t : Tn) : List Value := [.string (bstr t.N), .int .i64 t.W, .int .i64 t.L]
def Tn.v (t : Tn) : Value := .agg t.cells.toArray
def flatT (ts : List Tn) : List Value := ts.flatMap Tn.cells
theorem flatT_len (ts : List Tn) : (flatT ts).length = ts.length * 3 := by
  unfold flatT
  induction ts with
  | nil => rfl
  | cons e r ih => rw [List.flatMap_cons, List.length_append, ih, List.length_cons]; simp only [Tn.cells, List.length_cons, List.length_nil]; omega
theorem flatT_at (ts : List Tn) : ∀ (k j : Nat) (e : Tn) (u : Value), ts[k]? = some e → e.cells[j]? = some u → (flatT ts)[k * 3 + j]? = some u := by
  unfold flatT
  induction ts with
  | nil => intro k j e u h; simp at h
  | cons f r ih =>
    intro k j e u h h2
    have hj : j < 3 := (List.getElem?_eq_some_iff.1 h2).1
    have hl : f.cells.length = 3 := rfl
    rw [List.flatMap_cons]
    cases k with
    | zero =>
      simp only [List.getElem?_cons_zero, Option.some.injEq] at h
      subst h
      rw [Nat.zero_mul, Nat.zero_add, List.getElem?_append_left (by rw [hl]; exact hj)]
      exact h2
    | succ k =>
      rw [List.getElem?_cons_succ] at h
      rw [List.getElem?_append_right (by rw [hl]; omega), hl, show (k + 1) * 3 + j - 3 = k * 3 + j by omega]
      exact ih k j e u h h2
/-- the three cells of a queue at an address, as a walk asks for them -/
def Three (w : World) (x : Addr) (t : Tn) : Prop :=
  w.cell? x = some (.string (bstr t.N)) ∧ w.cell? { block := x.block, off := x.off + 1, spot := none } = some (.int .i64 t.W) ∧ w.cell? { block := x.block, off := x.off + 2, spot := none } = some (.int .i64 t.L)
theorem slT_addr {w : World} {A : Option Addr} {m d : Nat} {ts : List Tn} (h : Sl w 3 A m d (flatT ts)) {k : Nat} {t : Tn} (hk : ts[k]? = some t) : ∃ ad, A = some ad := by
  obtain ⟨ad, h1, _⟩ := h.cells (k * 3 + 0) _ (flatT_at ts k 0 t _ hk rfl)
  exact ⟨ad, h1⟩
theorem slT_three {w : World} {ad : Addr} {m d : Nat} {ts : List Tn} (h : Sl w 3 (some ad) m d (flatT ts)) {k : Nat} {t : Tn} (hk : ts[k]? = some t) : Three w (ad.add (k * 3)) t := by
  have key : ∀ j u, t.cells[j]? = some u → w.cell? ((ad.add (k * 3)).add j) = some u := by
    intro j u hj
    obtain ⟨a, h1, h2⟩ := h.cells (k * 3 + j) u (flatT_at ts k j t u hk hj)
    cases h1
    rw [addr_add_add]; exact h2
  exact ⟨key 0 _ rfl, key 1 _ rfl, key 2 _ rfl⟩
theorem slT_len {w : World} {A : Option Addr} {m d : Nat} {ts : List Tn} (h : Sl w 3 A m d (flatT ts)) : ts.length = m := by have := h.len; rw [flatT_len] at this; omega

set_option maxHeartbeats 400000 in
theorem fnamed_any (s : List UInt8) (w : World) : Calls Try.prog 60 #[.string (bstr s)] w fun e w' => e = .returned (.bool (namedB s)) ∧ w = w' := by
  have hsz : (bstr s).size = s.length := rfl
  unfold namedB
  go_enter Try.func60, Try.ntmps60
  go_wp2_with fail
  all_goals
    go_ret
    exact ⟨ret_bool (by simp <;> omega), rfl⟩

set_option maxHeartbeats 400000 in
/-- has a queue this name? (the closure of place) -/
theorem isT_any (t : Tn) (g : Nat) (s : List UInt8) (w : World) (hc : w.cell? ⟨g, 0, none⟩ = some (.string (bstr s))) :
    Calls Try.prog 90 #[t.v, .pointer (some ⟨g, 0, none⟩)] w fun e w' => e = .returned (.bool (decide (t.N = s))) ∧ Below w.heap.size w w' := by
  have hb := below_alloc1 w (.cells t.cells.toArray 51)
  unfold Tn.v
  unfold Tn.cells at *
  have hg := World.block_lt_of_cell? _ _ hc
  go_enter Try.func90, Try.ntmps90
  go_wp2_with fail
  go_ret
  exact ⟨ret_bool (by simp), hb⟩
def placeI (ts : List Tn) (s : List UInt8) : Int := match ts.findIdx? (fun t => decide (t.N = s)) with | some i => (i : Int) | none => -1
theorem placeI_some {ts : List Tn} {s : List UInt8} {k : Nat} {t : Tn} (h : ∀ j q, j < k → ts[j]? = some q → q.N ≠ s) (ht : ts[k]? = some t) (hs : t.N = s) : placeI ts s = (k : Int) := by
  unfold placeI
  have hk := (List.getElem?_eq_some_iff.1 ht).1
  have hx : ts.findIdx? (fun t => decide (t.N = s)) = some k := by
    rw [List.findIdx?_eq_some_iff_getElem]
    refine ⟨hk, by rw [(List.getElem?_eq_some_iff.1 ht).2]; simpa using hs, fun j hj => ?_⟩
    have := h j ts[j] hj (by simp)
    simpa using this
  rw [hx]
theorem placeI_none {ts : List Tn} {s : List UInt8} (h : ∀ j q, j < ts.length → ts[j]? = some q → q.N ≠ s) : placeI ts s = -1 := by
  unfold placeI
  have hx : ts.findIdx? (fun t => decide (t.N = s)) = none := by
    rw [List.findIdx?_eq_none_iff]
    intro x hx
    obtain ⟨j, hj, rfl⟩ := List.getElem_of_mem hx
    simpa using h j ts[j] hj (by simp)
  rw [hx]

set_option maxRecDepth 100000 in
set_option maxHeartbeats 2000000 in
theorem indexT_any (ts : List Tn) (A : Option Addr) (m d g : Nat) (s : List UInt8) (w : World) (hs : Sl w 3 A m d (flatT ts)) (hm : m ≤ 1000000) (hc : w.cell? ⟨g, 0, none⟩ = some (.string (bstr s))) :
    Calls Try.prog 89 #[.slice A m d, .func (.func 90) #[] #[.pointer (some ⟨g, 0, none⟩)]] w fun e w' => e = .returned (.int .i64 (placeI ts s)) ∧ Below w.heap.size w w' := by
  have hl := slT_len hs
  go_enter Try.func89, Try.ntmps89
  go_wp2_with fail
  go_loopw [5, 8] (fun _ s8 wx => ∃ (k : Nat), k ≤ m ∧ s8 = .int .i64 (k : Int) ∧ Hid (∀ j q, j < k → ts[j]? = some q → q.N ≠ s) ∧ Below w.heap.size w wx) (fun _ iv _ => m - (intOf iv).toNat)
  case atStart => exact ⟨0, by omega, rfl, Lib.hid (fun j q hj => absurd hj (by omega)), Below.refl _ _⟩
  case round =>
    obtain ⟨k, hk, rfl, Hne, hb⟩ := hrel
    by_cases h1 : (k : Int) < (m : Int)
    · obtain ⟨t, ht⟩ := get_some ts k (by omega)
      have hsx := hs.below hb
      obtain ⟨ad, rfl⟩ := slT_addr hs ht
      obtain ⟨y0, y1, y2⟩ := slT_three hsx ht
      have hin : (0 : Int) ≤ (k : Int) ∧ (k : Int) < (m : Int) := by omega
      have hcx : wr.cell? ⟨g, 0, none⟩ = some (.string (bstr s)) := (World.cell?_of_block (hb.block _ (World.block_lt_of_cell? _ _ hc))).trans hc
      have Ht := Lib.hid ht
      have Hl := Lib.hid hl
      clear ht hsx hl
      go_wp2_with fail
      refine (isT_any t g s _ hcx).mono ?_; rintro x w3 ⟨rfl, hb3⟩
      have hb4 := hb.trans (hb3.mono hb.size)
      clear hb3 hb y0 y1 y2 hcx hc hs
      by_cases h2 : t.N = s
      · go_wp2_with fail
        go_ret
        rw [placeI_some Hne.out Ht.out h2]
        exact ⟨rfl, hb4⟩
      · go_wp2_with fail
        go_roundw
        case rel => exact ⟨k + 1, by omega, by go_num, Lib.hid (fun j q hj hq => by rcases Nat.lt_succ_iff_lt_or_eq.1 hj with hlt | rfl; exact Hne.out j q hlt hq; rw [Ht.out] at hq; cases hq; exact h2), hb4⟩
        case measure => simp [intOf]; omega
    · obtain rfl : k = m := by omega
      go_wp2_with fail
      go_ret
      rw [placeI_none (by rw [hl]; exact Hne.out)]
      exact ⟨rfl, hb⟩
end Go.Proofs.Ytphjmbhlokkdiaa
