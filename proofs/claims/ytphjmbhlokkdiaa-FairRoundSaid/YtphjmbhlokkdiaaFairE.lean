import Derived.Test.YtphjmbhlokkdiaaFairD
namespace Go.Proofs.Ytphjmbhlokkdiaa
open Go.RowKit Go.Maps Go.WideShapes Go.WideMaps
set_option linter.unusedSimpArgs false
set_option linter.unusedVariables false

/-- what a queue hands out next -/
structure Hd where
  N : List UInt8
  C : Int
deriving DecidableEq
def Hd.cells (t : Hd) : List Value := [.string (bstr t.N), .int .i64 t.C]
def Hd.v (t : Hd) : Value := .agg t.cells.toArray
def flatH (ts : List Hd) : List Value := ts.flatMap Hd.cells
theorem flatH_len (ts : List Hd) : (flatH ts).length = ts.length * 2 := by
  unfold flatH
  induction ts with
  | nil => rfl
  | cons e r ih => rw [List.flatMap_cons, List.length_append, ih, List.length_cons]; simp only [Hd.cells, List.length_cons, List.length_nil]; omega
theorem flatH_at (ts : List Hd) : ∀ (k j : Nat) (e : Hd) (u : Value), ts[k]? = some e → e.cells[j]? = some u → (flatH ts)[k * 2 + j]? = some u := by
  unfold flatH
  induction ts with
  | nil => intro k j e u h; simp at h
  | cons f r ih =>
    intro k j e u h h2
    have hj : j < 2 := (List.getElem?_eq_some_iff.1 h2).1
    have hl : f.cells.length = 2 := rfl
    rw [List.flatMap_cons]
    cases k with
    | zero =>
      simp only [List.getElem?_cons_zero, Option.some.injEq] at h
      subst h
      rw [Nat.zero_mul, Nat.zero_add, List.getElem?_append_left (by rw [hl]; exact hj)]
      exact h2
    | succ k =>
      rw [List.getElem?_cons_succ] at h
      rw [List.getElem?_append_right (by rw [hl]; omega), hl, show (k + 1) * 2 + j - 2 = k * 2 + j by omega]
      exact ih k j e u h h2
def Two (w : World) (x : Addr) (t : Hd) : Prop :=
  w.cell? x = some (.string (bstr t.N)) ∧ w.cell? { block := x.block, off := x.off + 1, spot := none } = some (.int .i64 t.C)
theorem slH_addr {w : World} {A : Option Addr} {m d : Nat} {ts : List Hd} (h : Sl w 2 A m d (flatH ts)) {k : Nat} {t : Hd} (hk : ts[k]? = some t) : ∃ ad, A = some ad := by
  obtain ⟨ad, h1, _⟩ := h.cells (k * 2 + 0) _ (flatH_at ts k 0 t _ hk rfl)
  exact ⟨ad, h1⟩
theorem slH_two {w : World} {ad : Addr} {m d : Nat} {ts : List Hd} (h : Sl w 2 (some ad) m d (flatH ts)) {k : Nat} {t : Hd} (hk : ts[k]? = some t) : Two w (ad.add (k * 2)) t := by
  have key : ∀ j u, t.cells[j]? = some u → w.cell? ((ad.add (k * 2)).add j) = some u := by
    intro j u hj
    obtain ⟨a, h1, h2⟩ := h.cells (k * 2 + j) u (flatH_at ts k j t u hk hj)
    cases h1
    rw [addr_add_add]; exact h2
  exact ⟨key 0 _ rfl, key 1 _ rfl⟩
theorem slH_len {w : World} {A : Option Addr} {m d : Nat} {ts : List Hd} (h : Sl w 2 A m d (flatH ts)) : ts.length = m := by have := h.len; rw [flatH_len] at this; omega

/-- what a queue's head costs; 0: it has none -/
def costOf (hs : List Hd) (s : List UInt8) : Int := match hs.find? (fun h => decide (h.N = s)) with | some h => h.C | none => 0
theorem costOf_first (hs : List Hd) (s : List UInt8) : ∀ (k : Nat) (t : Hd), (∀ j q, j < k → hs[j]? = some q → q.N ≠ s) → hs[k]? = some t → t.N = s → costOf hs s = t.C := by
  induction hs with
  | nil => intro k t _ h; simp at h
  | cons f r ih =>
    intro k t h ht hs
    cases k with
    | zero =>
      simp only [List.getElem?_cons_zero, Option.some.injEq] at ht
      subst ht
      simp [costOf, hs]
    | succ k =>
      have h0 := h 0 f (by omega) rfl
      have := ih k t (fun j q hj hq => h (j + 1) q (by omega) (by rw [List.getElem?_cons_succ]; exact hq)) (by rw [List.getElem?_cons_succ] at ht; exact ht) hs
      unfold costOf at this ⊢
      rw [List.find?_cons_of_neg (by simpa using h0)]
      exact this
theorem costOf_none {hs : List Hd} {s : List UInt8} (h : ∀ j q, j < hs.length → hs[j]? = some q → q.N ≠ s) : costOf hs s = 0 := by
  unfold costOf
  have hx : hs.find? (fun t => decide (t.N = s)) = none := by
    rw [List.find?_eq_none]
    intro x hx
    obtain ⟨j, hj, rfl⟩ := List.getElem_of_mem hx
    simpa using h j hs[j] hj (by simp)
  rw [hx]

set_option maxHeartbeats 400000 in
theorem isH_any (t : Hd) (g : Nat) (s : List UInt8) (w : World) (hc : w.cell? ⟨g, 0, none⟩ = some (.string (bstr s))) :
    Calls Try.prog 66 #[t.v, .pointer (some ⟨g, 0, none⟩)] w fun e w' => e = .returned (.bool (decide (t.N = s))) ∧ Below w.heap.size w w' := by
  have hb := below_alloc1 w (.cells t.cells.toArray 45)
  unfold Hd.v
  unfold Hd.cells at *
  have hg := World.block_lt_of_cell? _ _ hc
  go_enter Try.func66, Try.ntmps66
  go_wp2_with fail
  go_ret
  exact ⟨ret_bool (by simp), hb⟩
set_option maxRecDepth 100000 in
set_option maxHeartbeats 2000000 in
theorem indexH_any (ts : List Hd) (A : Option Addr) (m d g : Nat) (s : List UInt8) (w : World) (hs : Sl w 2 A m d (flatH ts)) (hm : m ≤ 1000000) (hc : w.cell? ⟨g, 0, none⟩ = some (.string (bstr s))) :
    Calls Try.prog 65 #[.slice A m d, .func (.func 66) #[] #[.pointer (some ⟨g, 0, none⟩)]] w fun e w' => ((∃ (k : Nat) (t : Hd), e = .returned (.int .i64 (k : Int)) ∧ ts[k]? = some t ∧ costOf ts s = t.C) ∨ (e = .returned (.int .i64 (-1)) ∧ costOf ts s = 0)) ∧ Below w.heap.size w w' := by
  have hl := slH_len hs
  go_enter Try.func65, Try.ntmps65
  go_wp2_with fail
  go_loopw [5, 8] (fun _ s8 wx => ∃ (k : Nat), k ≤ m ∧ s8 = .int .i64 (k : Int) ∧ Hid (∀ j q, j < k → ts[j]? = some q → q.N ≠ s) ∧ Below w.heap.size w wx) (fun _ iv _ => m - (intOf iv).toNat)
  case atStart => exact ⟨0, by omega, rfl, Lib.hid (fun j q hj => absurd hj (by omega)), Below.refl _ _⟩
  case round =>
    obtain ⟨k, hk, rfl, Hne, hb⟩ := hrel
    by_cases h1 : (k : Int) < (m : Int)
    · obtain ⟨t, ht⟩ := get_some ts k (by omega)
      have hsx := hs.below hb
      obtain ⟨ad, rfl⟩ := slH_addr hs ht
      obtain ⟨y0, y1⟩ := slH_two hsx ht
      have hin : (0 : Int) ≤ (k : Int) ∧ (k : Int) < (m : Int) := by omega
      have hcx : wr.cell? ⟨g, 0, none⟩ = some (.string (bstr s)) := (World.cell?_of_block (hb.block _ (World.block_lt_of_cell? _ _ hc))).trans hc
      have Ht := Lib.hid ht
      have Hl := Lib.hid hl
      clear ht hsx hl
      go_wp2_with fail
      refine (isH_any t g s _ hcx).mono ?_; rintro x w3 ⟨rfl, hb3⟩
      have hb4 := hb.trans (hb3.mono hb.size)
      clear hb3 hb y0 y1 hcx hc hs
      by_cases h2 : t.N = s
      · go_wp2_with fail
        go_ret
        exact ⟨.inl ⟨k, t, rfl, Ht.out, costOf_first ts s k t Hne.out Ht.out h2⟩, hb4⟩
      · go_wp2_with fail
        go_roundw
        case rel => exact ⟨k + 1, by omega, by go_num, Lib.hid (fun j q hj hq => by rcases Nat.lt_succ_iff_lt_or_eq.1 hj with hlt | rfl; exact Hne.out j q hlt hq; rw [Ht.out] at hq; cases hq; exact h2), hb4⟩
        case measure => simp [intOf]; omega
    · obtain rfl : k = m := by omega
      go_wp2_with fail
      go_ret
      exact ⟨.inr ⟨rfl, costOf_none (by rw [hl]; exact Hne.out)⟩, hb⟩
set_option maxRecDepth 100000 in
set_option maxHeartbeats 2000000 in
/-- the closure of Pick: what the head of a queue costs -/
theorem cost_any (ts : List Hd) (A : Option Addr) (m d g : Nat) (s : List UInt8) (w : World) (hs : Sl w 2 A m d (flatH ts)) (hm : m ≤ 1000000) (hc : w.cell? ⟨g, 0, none⟩ = some (.slice A m d)) (hC : ∀ t, t ∈ ts → -1000000 ≤ t.C ∧ t.C ≤ 1000000) :
    Calls Try.prog 64 #[.string (bstr s), .pointer (some ⟨g, 0, none⟩)] w fun e w' => e = .returned (.int .i64 (costOf ts s)) ∧ Below w.heap.size w w' := by
  have hb0 := below_alloc1 w (.cells #[.string (bstr s)] 9)
  have hmf : ∀ (fn : Fn) (first cap : Array Value) (w : World), (Instr.makeFunc fn first cap).run Try.prog w = .ok (.func fn first cap) w := fun _ _ _ _ => rfl
  have hl := slH_len hs
  have hg := World.block_lt_of_cell? _ _ hc
  have hc1 : (w.alloc (.cells #[.string (bstr s)] 9)).cell? ⟨w.heap.size, 0, none⟩ = some (.string (bstr s)) := by
    obtain ⟨a, h1, h2⟩ := (sl_cells w [.string (bstr s)] 9).cells 0 _ rfl
    cases h1
    simp [Addr.add]
  have hs1 := hs.below hb0
  have hc0 : (w.alloc (.cells #[.string (bstr s)] 9)).cell? ⟨g, 0, none⟩ = some (.slice A m d) := (World.cell?_of_block (hb0.block _ hg)).trans hc
  go_enter Try.func64, Try.ntmps64
  go_upto_region 1 with fail
  generalize w.alloc (.cells #[.string (bstr s)] 9) = w1 at *
  go_wp2_with fail
  refine (indexH_any ts A m d w.heap.size s _ hs1 hm hc1).mono ?_; rintro x w3 ⟨hx, hb3⟩
  have hb4 := hb0.trans (hb3.mono hb0.size)
  have hcx : w3.cell? ⟨g, 0, none⟩ = some (.slice A m d) := (World.cell?_of_block (hb3.block _ (World.block_lt_of_cell? _ _ hc0))).trans hc0
  have hs3 := hs1.below hb3
  clear hc hc0 hc1 hs hs1 hb3 hb0
  rcases hx with ⟨k, t, rfl, ht, hco⟩ | ⟨rfl, hco⟩
  · have Hco := Lib.hid hco
    obtain ⟨ad, rfl⟩ := slH_addr hs3 ht
    obtain ⟨y0, y1⟩ := slH_two hs3 ht
    have hkl := (List.getElem?_eq_some_iff.1 ht).1
    have hin : (0 : Int) ≤ (k : Int) ∧ (k : Int) < (m : Int) := by omega
    have hq := hC t (List.mem_of_getElem? ht)
    clear hco ht hl
    go_wp2_with fail
    go_ret
    rw [Hco.out]
    exact ⟨rfl, hb4⟩
  · have Hco := Lib.hid hco
    clear hco
    go_wp2_with fail
    go_ret
    rw [Hco.out]
    exact ⟨rfl, hb4⟩
end Go.Proofs.Ytphjmbhlokkdiaa
