import Derived.Test.YtphjmbhlokkdiaaWkA
/- The workers: cloning, a worker's place. -/
namespace Go.Proofs.Ytphjmbhlokkdiaa
open Go.RowKit Go.Proofs.YtphjmbhlokkdiaaW.PrintWords Go.Proofs.YtphjmbhlokkdiaaW.PrintLast Go.Proofs.YtphjmbhlokkdiaaW.PrintMore
set_option linter.unusedSimpArgs false
set_option linter.unusedVariables false

set_option maxRecDepth 100000 in
set_option maxHeartbeats 1000000 in
theorem cloneW_any (A : Option Addr) (m d : Nat) (ts : List Wk) (w : World) (hs : Sl w 2 A m d (flatW ts)) (hm : m ≤ 1000000) :
    Calls Try.prog 79 #[.slice A m d] w fun e w' => ∃ A' c', e = .returned (.slice A' m c') ∧ Own w.heap.size 115 2 w' A' m c' (flatW ts) ∧ Below w.heap.size w w' := by
  cases A with
  | none =>
    obtain ⟨rfl, rfl⟩ := hs.none rfl
    have hl := hs.len
    obtain rfl : ts = [] := by rw [flatW_len] at hl; exact List.eq_nil_of_length_eq_zero (by omega)
    have hnil : ∀ W, (binOp .eql 62 (.slice none 0 0) (.slice none 0 0)).run Try.prog W = .ok (.bool true) W := fun W => Lib.run_eql_slice_nil_nil W _ _ Try.underlying62
    go_enter Try.func79, Try.ntmps79
    go_wp2_with fail
    go_ret
    exact ⟨none, 0, rfl, World.ownsRow_nil _ _ _ _, Below.refl _ _⟩
  | some ad =>
    obtain ⟨i0, hi, hz0, hz1, hz2⟩ := info_parts infoIW
    have hown : (w.alloc (.cells #[] 115)).ownsRow w.heap.size 115 2 (.slice (some ⟨w.heap.size, 0, none⟩) 0 0) 0 [] := World.ownsRow_lit w #[] 0 (Nat.le_refl _) (by unfold maxLen; omega) rfl
    have hb := below_alloc1 w (.cells #[] 115)
    have hnil : ∀ W, (binOp .eql 62 (.slice (some ad) m d) (.slice none 0 0)).run Try.prog W = .ok (.bool false) W := fun W => Lib.run_eql_slice_some_nil W _ _ _ Try.underlying62
    go_enter Try.func79, Try.ntmps79
    go_wp2_with (at_builtin; refine wpList_append_own _ rfl _ _ 62 rfl w.heap.size 115 i0 (.agg #[.int .i64 0, .int .i64 0]) 2 16 Try.underlying62 hi hz0 hz1 hz2 rfl (by decide) _ 0 [] rfl hown ad m d (flatW ts) rfl hs.len (fun j u hj => by obtain ⟨ad', h1, h2⟩ := (hs.below hb).cells j u hj; cases h1; exact h2) (wk_one ts) (by unfold maxLen; omega) (by omega) (by simp) ?_; intro v' w2 hown2 hgrow2 hnil2)
    go_ret
    obtain ⟨A', c', rfl, h2⟩ := ownsRow_sliceI hown2
    refine ⟨A', c', by simp, by simpa using h2, hb.trans ((Below.refl _ _).grown hgrow2 (by simp) (fun k hk => by cases hk; exact Nat.le_refl _))⟩

def cmpW (a b : Int) : Int := if a < b then -1 else if b < a then 1 else 0
set_option maxHeartbeats 400000 in
theorem plcmp_any (x : Wk) (id : Int) (w : World) : Calls Try.prog 98 #[.agg #[.int .i64 x.f0, .int .i64 x.f1], .int .i64 id] w fun e w' => e = .returned (.int .i64 (cmpW x.f0 id)) ∧ Below w.heap.size w w' := by
  have hb := below_alloc1 w (.cells #[.int .i64 x.f0, .int .i64 x.f1] 115)
  go_enter Try.func98, Try.ntmps98
  by_cases h1 : x.f0 < id
  · go_wp2_with fail
    go_ret
    exact ⟨by simp [cmpW, h1], hb⟩
  · by_cases h2 : id < x.f0
    · go_wp2_with fail
      go_ret
      exact ⟨by simp [cmpW, h1, h2], hb⟩
    · go_wp2_with fail
      go_ret
      exact ⟨ret_i64 (by unfold cmpW; rw [if_neg (by omega), if_neg (by omega)]), hb⟩

theorem cmpW_lt {a b : Int} (h : a < b) : cmpW a b = -1 := by simp [cmpW, h]
theorem cmpW_gt {a b : Int} (h : b < a) : cmpW a b = 1 := by unfold cmpW; rw [if_neg (by omega), if_pos h]
theorem cmpW_eq (a : Int) : cmpW a a = 0 := by simp [cmpW]
theorem ret_xb {x : Value} {a b : Bool} (h : a = b) : Ending.returned (.tuple #[x, .bool a]) = .returned (.tuple #[x, .bool b]) := by rw [h]
def SortedW (xs : List Wk) : Prop := ∀ (i j : Nat) (x y : Wk), i < j → xs[i]? = some x → xs[j]? = some y → x.f0 < y.f0
theorem chkW_low {xs : List Wk} : ∀ {last : Int}, chkW last xs = true → ∀ x, x ∈ xs → last < x.f0 := by
  induction xs with
  | nil => intro _ _ x hx; cases hx
  | cons y r ih =>
    intro last h x hx
    simp only [chkW, Bool.and_eq_true, decide_eq_true_eq] at h
    rcases List.mem_cons.1 hx with rfl | hx
    · exact h.1
    · have := ih h.2.2.2 x hx; omega
theorem chkW_sorted {xs : List Wk} : ∀ {last : Int}, chkW last xs = true → SortedW xs := by
  induction xs with
  | nil => intro _ _ i j x y _ h; simp at h
  | cons z r ih =>
    intro last h i j x y hij hi hj
    simp only [chkW, Bool.and_eq_true, decide_eq_true_eq] at h
    cases i with
    | zero =>
      cases j with
      | zero => omega
      | succ j =>
        simp at hi hj
        subst hi
        exact chkW_low h.2.2.2 y (List.mem_of_getElem? hj)
    | succ i =>
      cases j with
      | zero => omega
      | succ j => exact ih h.2.2.2 i j x y (by omega) (by simpa using hi) (by simpa using hj)
theorem chkW_times {xs : List Wk} : ∀ {last : Int}, chkW last xs = true → ∀ x, x ∈ xs → 0 ≤ x.f1 ∧ x.f1 ≤ 1099511627776 := by
  induction xs with
  | nil => intro _ _ x hx; cases hx
  | cons y r ih =>
    intro last h x hx
    simp only [chkW, Bool.and_eq_true, decide_eq_true_eq] at h
    rcases List.mem_cons.1 hx with rfl | hx
    · exact ⟨h.2.1, h.2.2.1⟩
    · exact ih h.2.2.2 x hx
theorem rightW_sorted {xs : List Wk} (h : rightW xs = true) : SortedW xs := by
  simp only [rightW, Bool.and_eq_true] at h
  exact chkW_sorted h.1
/-- a worker's place, or where it would stand -/
def posW (xs : List Wk) (id : Int) : Nat := xs.findIdx fun x => decide (id ≤ x.f0)
def thereW (xs : List Wk) (id : Int) : Bool := match xs[posW xs id]? with | some x => decide (x.f0 = id) | none => false
theorem posW_le (xs : List Wk) (id : Int) : posW xs id ≤ xs.length := List.findIdx_le_length
theorem posW_of {xs : List Wk} {id : Int} {k : Nat} (hk : k ≤ xs.length) (h1 : ∀ j x, j < k → xs[j]? = some x → x.f0 < id) (h2 : ∀ x, xs[k]? = some x → id ≤ x.f0) : posW xs id = k := by
  unfold posW
  rcases Nat.lt_or_ge k xs.length with h | h
  · obtain ⟨x, hx⟩ := get_at xs k h
    rw [List.findIdx_eq h]
    refine ⟨by have := h2 x hx; rw [(List.getElem?_eq_some_iff.1 hx).2]; simpa using this, fun j hj => ?_⟩
    have := h1 j xs[j] hj (by simp)
    simp; omega
  · obtain rfl : k = xs.length := by omega
    rw [List.findIdx_eq_length]
    intro x hx
    obtain ⟨j, hj, rfl⟩ := List.getElem_of_mem hx
    have := h1 j xs[j] hj (by simp)
    simp; omega

set_option maxRecDepth 100000 in
set_option maxHeartbeats 4000000 in
theorem bsW_any (A : Option Addr) (m d : Nat) (xs : List Wk) (id : Int) (w : World) (hs : Sl w 2 A m d (flatW xs)) (hm : m ≤ 1000000) (hso : SortedW xs) :
    Calls Try.prog 97 #[.slice A m d, .int .i64 id, .func (.func 98) #[] #[]] w fun e w' => e = .returned (.tuple #[.int .i64 (posW xs id : Int), .bool (thereW xs id)]) ∧ Below w.heap.size w w' := by
  have hl := slW_len hs
  have Hso := Lib.hid hso
  clear hso
  go_enter Try.func97, Try.ntmps97
  go_wp2_with fail
  go_loopw [9, 10] (fun s9 s10 wx => ∃ (lo hi : Nat), lo ≤ hi ∧ hi ≤ m ∧ s9 = .int .i64 (lo : Int) ∧ s10 = .int .i64 (hi : Int) ∧ Hid (∀ j x, j < lo → xs[j]? = some x → x.f0 < id) ∧ Hid (∀ j x, hi ≤ j → xs[j]? = some x → id ≤ x.f0) ∧ Below w.heap.size w wx) (fun lv hv _ => (intOf hv).toNat - (intOf lv).toNat)
  case atStart => exact ⟨0, m, by omega, by omega, rfl, rfl, Lib.hid (fun j q hj => absurd hj (by omega)), Lib.hid (fun j q hj hq => by have := (List.getElem?_eq_some_iff.1 hq).1; omega), Below.refl _ _⟩
  case round =>
    obtain ⟨lo, hi, hlh, hhm, rfl, rfl, HL, HH, hb⟩ := hrel
    by_cases h1 : (lo : Int) < (hi : Int)
    · obtain ⟨t, ht⟩ := get_at xs ((lo + hi) / 2) (by omega)
      have hsx := hs.below hb
      obtain ⟨ad, rfl⟩ := slW_addr hs ht
      obtain ⟨y0, y1⟩ := slW_two hsx ht
      have hin : (0 : Int) ≤ (((lo + hi) / 2 : Nat) : Int) ∧ (((lo + hi) / 2 : Nat) : Int) < (m : Int) := by omega
      have Ht := Lib.hid ht
      have Hm := Lib.hid (show lo ≤ (lo + hi) / 2 ∧ (lo + hi) / 2 < hi by omega)
      clear ht hsx hs
      go_wp2_with fail
      refine (plcmp_any t id _).mono ?_; rintro x w2 ⟨rfl, hb2⟩
      have hb3 := hb.trans (hb2.mono hb.size)
      clear hb hb2 y0 y1
      by_cases h2 : t.f0 < id
      · rw [cmpW_lt h2]
        have HL2 := Lib.hid (show ∀ j x, j < (lo + hi) / 2 + 1 → xs[j]? = some x → x.f0 < id from fun j x hj hx => by
          rcases Nat.lt_succ_iff_lt_or_eq.1 hj with hlt | rfl
          · have := Hso.out j _ x t hlt hx Ht.out; omega
          · rw [Ht.out] at hx; cases hx; exact h2)
        clear h2
        go_wp2_with fail
        go_roundw
        case rel => exact ⟨(lo + hi) / 2 + 1, hi, by have := Hm.out; omega, by omega, by congr 1, rfl, HL2, HH, hb3⟩
        case measure => have := Hm.out; simp [intOf]; omega
      · have hc : cmpW t.f0 id = 1 ∨ cmpW t.f0 id = 0 := by
          rcases Int.lt_trichotomy t.f0 id with h | h | h
          · exact absurd h h2
          · rw [h, cmpW_eq]; exact .inr rfl
          · exact .inl (cmpW_gt h)
        have HH2 := Lib.hid (show ∀ j x, (lo + hi) / 2 ≤ j → xs[j]? = some x → id ≤ x.f0 from fun j x hj hx => by
          rcases Nat.lt_or_eq_of_le hj with hlt | rfl
          · have := Hso.out _ j t x hlt Ht.out hx; omega
          · rw [Ht.out] at hx; cases hx; omega)
        clear h2
        rcases hc with hc | hc
        all_goals
          rw [hc]
          clear hc
          go_wp2_with fail
          go_roundw
          case rel => exact ⟨lo, (lo + hi) / 2, by have := Hm.out; omega, by have := Hm.out; omega, rfl, by congr 1, HL, HH2, hb3⟩
          case measure => have := Hm.out; simp [intOf]; omega
    · obtain rfl : lo = hi := by omega
      have hp := posW_of (id := id) (by omega) HL.out (fun x hx => HH.out lo x (Nat.le_refl _) hx)
      have Hp := Lib.hid hp
      clear hp
      by_cases h3 : (lo : Int) < (m : Int)
      · obtain ⟨t, ht⟩ := get_at xs lo (by omega)
        have hsx := hs.below hb
        obtain ⟨ad, rfl⟩ := slW_addr hs ht
        obtain ⟨y0, y1⟩ := slW_two hsx ht
        have hin : (0 : Int) ≤ (lo : Int) ∧ (lo : Int) < (m : Int) := by omega
        have Hth := Lib.hid (show thereW xs id = decide (t.f0 = id) by unfold thereW; rw [Hp.out, ht])
        clear ht hsx hs
        go_wp2_with fail
        refine (plcmp_any t id _).mono ?_; rintro x w2 ⟨rfl, hb2⟩
        have hb3 := hb.trans (hb2.mono hb.size)
        clear hb hb2 y0 y1
        have hq : cmpW t.f0 id = 0 ↔ t.f0 = id := by
          unfold cmpW; split
          · constructor <;> intro h <;> omega
          · split
            · constructor <;> intro h <;> omega
            · constructor <;> intro h <;> omega
        have Hq := Lib.hid hq
        clear hq
        go_wp2_with fail
        go_ret2
        rw [Hp.out, Hth.out]
        exact ⟨ret_xb (by rw [Bool.eq_iff_iff]; simpa using Hq.out), hb3⟩
      · obtain rfl : lo = m := by omega
        have Hth := Lib.hid (show thereW xs id = false by unfold thereW; rw [Hp.out, List.getElem?_eq_none (by omega)])
        go_wp2_with fail
        go_ret2
        rw [Hp.out, Hth.out]
        exact ⟨rfl, hb⟩

set_option maxHeartbeats 1000000 in
theorem placeW_any (A : Option Addr) (m d : Nat) (xs : List Wk) (id : Int) (w : World) (hs : Sl w 2 A m d (flatW xs)) (hm : m ≤ 1000000) (hso : SortedW xs) :
    Calls Try.prog 80 #[.slice A m d, .int .i64 id] w fun e w' => e = .returned (.tuple #[.int .i64 (posW xs id : Int), .bool (thereW xs id)]) ∧ Below w.heap.size w w' := by
  go_enter Try.func80, Try.ntmps80
  go_wp2_with fail
  refine (bsW_any A m d xs id _ hs hm hso).mono ?_; rintro x w2 ⟨rfl, hb2⟩
  go_wp2_with fail
  go_ret2
  exact ⟨rfl, hb2⟩

set_option maxHeartbeats 400000 in
theorem isW_any (x : Wk) (g : Nat) (id : Int) (w : World) (hc : w.cell? ⟨g, 0, none⟩ = some (.int .i64 id)) :
    Calls Try.prog 85 #[.agg #[.int .i64 x.f0, .int .i64 x.f1], .pointer (some ⟨g, 0, none⟩)] w fun e w' => e = .returned (.bool (decide (x.f0 = id))) ∧ Below w.heap.size w w' := by
  have hb := below_alloc1 w (.cells #[.int .i64 x.f0, .int .i64 x.f1] 115)
  have hg := World.block_lt_of_cell? _ _ hc
  go_enter Try.func85, Try.ntmps85
  go_wp2_with fail
  go_ret
  exact ⟨ret_bool (by simp), hb⟩
set_option maxHeartbeats 400000 in
theorem isWL_any (x : Wk) (g : Nat) (id : Int) (w : World) (hc : w.cell? ⟨g, 0, none⟩ = some (.int .i64 id)) :
    Calls Try.prog 83 #[.agg #[.int .i64 x.f0, .int .i64 x.f1], .pointer (some ⟨g, 0, none⟩)] w fun e w' => e = .returned (.bool (decide (x.f0 = id))) ∧ Below w.heap.size w w' := by
  have hb := below_alloc1 w (.cells #[.int .i64 x.f0, .int .i64 x.f1] 115)
  have hg := World.block_lt_of_cell? _ _ hc
  go_enter Try.func83, Try.ntmps83
  go_wp2_with fail
  go_ret
  exact ⟨ret_bool (by simp), hb⟩
def indW (xs : List Wk) (id : Int) : Int := match xs.findIdx? (fun x => decide (x.f0 = id)) with | some i => (i : Int) | none => -1
theorem indW_some {ts : List Wk} {s : Int} {k : Nat} {t : Wk} (h : ∀ j q, j < k → ts[j]? = some q → q.f0 ≠ s) (ht : ts[k]? = some t) (hs : t.f0 = s) : indW ts s = (k : Int) := by
  unfold indW
  have hk := (List.getElem?_eq_some_iff.1 ht).1
  have hx : ts.findIdx? (fun x => decide (x.f0 = s)) = some k := by
    rw [List.findIdx?_eq_some_iff_getElem]
    refine ⟨hk, by rw [(List.getElem?_eq_some_iff.1 ht).2]; simpa using hs, fun j hj => ?_⟩
    have := h j ts[j] hj (by simp)
    simpa using this
  rw [hx]
theorem indW_none {ts : List Wk} {s : Int} (h : ∀ j q, j < ts.length → ts[j]? = some q → q.f0 ≠ s) : indW ts s = -1 := by
  unfold indW
  have hx : ts.findIdx? (fun x => decide (x.f0 = s)) = none := by
    rw [List.findIdx?_eq_none_iff]
    intro x hx
    obtain ⟨j, hj, rfl⟩ := List.getElem_of_mem hx
    simpa using h j ts[j] hj (by simp)
  rw [hx]
theorem known_ind (xs : List Wk) (id : Int) : knownW xs id = decide (0 ≤ indW xs id) := by
  unfold knownW indW
  cases h : xs.findIdx? (fun x => decide (x.f0 = id)) with
  | none =>
    rw [List.findIdx?_eq_none_iff] at h
    simp
    intro x hx
    simpa using h x hx
  | some i =>
    rw [List.findIdx?_eq_some_iff_getElem] at h
    obtain ⟨h1, h2, _⟩ := h
    simp
    exact ⟨xs[i], List.getElem_mem h1, by simpa using h2⟩
set_option maxRecDepth 100000 in
set_option maxHeartbeats 2000000 in
/-- slices.IndexFunc -/
theorem indexK_any (ts : List Wk) (A : Option Addr) (m d g : Nat) (s : Int) (w : World) (hs : Sl w 2 A m d (flatW ts)) (hm : m ≤ 1000000) (hc : w.cell? ⟨g, 0, none⟩ = some (.int .i64 s)) :
    Calls Try.prog 101 #[.slice A m d, .func (.func 85) #[] #[.pointer (some ⟨g, 0, none⟩)]] w fun e w' => e = .returned (.int .i64 (indW ts s)) ∧ Below w.heap.size w w' := by
  have hl := slW_len hs
  go_enter Try.func101, Try.ntmps101
  go_wp2_with fail
  go_loopw [5, 8] (fun _ s8 wx => ∃ (k : Nat), k ≤ m ∧ s8 = .int .i64 (k : Int) ∧ Hid (∀ j q, j < k → ts[j]? = some q → q.f0 ≠ s) ∧ Below w.heap.size w wx) (fun _ iv _ => m - (intOf iv).toNat)
  case atStart => exact ⟨0, by omega, rfl, Lib.hid (fun j q hj => absurd hj (by omega)), Below.refl _ _⟩
  case round =>
    obtain ⟨k, hk, rfl, Hne, hb⟩ := hrel
    by_cases h1 : (k : Int) < (m : Int)
    · obtain ⟨t, ht⟩ := get_at ts k (by omega)
      have hsx := hs.below hb
      obtain ⟨ad, rfl⟩ := slW_addr hs ht
      obtain ⟨y0, y1⟩ := slW_two hsx ht
      have hin : (0 : Int) ≤ (k : Int) ∧ (k : Int) < (m : Int) := by omega
      have hcx : wr.cell? ⟨g, 0, none⟩ = some (.int .i64 s) := (World.cell?_of_block (hb.block _ (World.block_lt_of_cell? _ _ hc))).trans hc
      have Ht := Lib.hid ht
      have Hl := Lib.hid hl
      clear ht hsx hl
      go_wp2_with fail
      refine (isW_any t g s _ hcx).mono ?_; rintro x w3 ⟨rfl, hb3⟩
      have hb4 := hb.trans (hb3.mono hb.size)
      clear hb3 hb y0 y1 hcx hc hs
      by_cases h2 : t.f0 = s
      · go_wp2_with fail
        go_ret
        rw [indW_some Hne.out Ht.out h2]
        exact ⟨rfl, hb4⟩
      · go_wp2_with fail
        go_roundw
        case rel => exact ⟨k + 1, by omega, by go_num, Lib.hid (fun j q hj hq => by rcases Nat.lt_succ_iff_lt_or_eq.1 hj with hlt | rfl; exact Hne.out j q hlt hq; rw [Ht.out] at hq; cases hq; exact h2), hb4⟩
        case measure => simp [intOf]; omega
    · obtain rfl : k = m := by omega
      go_wp2_with fail
      go_ret
      rw [indW_none (by rw [hl]; exact Hne.out)]
      exact ⟨rfl, hb⟩
set_option maxRecDepth 100000 in
set_option maxHeartbeats 2000000 in
/-- slices.IndexFunc -/
theorem indexL_any (ts : List Wk) (A : Option Addr) (m d g : Nat) (s : Int) (w : World) (hs : Sl w 2 A m d (flatW ts)) (hm : m ≤ 1000000) (hc : w.cell? ⟨g, 0, none⟩ = some (.int .i64 s)) :
    Calls Try.prog 101 #[.slice A m d, .func (.func 83) #[] #[.pointer (some ⟨g, 0, none⟩)]] w fun e w' => e = .returned (.int .i64 (indW ts s)) ∧ Below w.heap.size w w' := by
  have hl := slW_len hs
  go_enter Try.func101, Try.ntmps101
  go_wp2_with fail
  go_loopw [5, 8] (fun _ s8 wx => ∃ (k : Nat), k ≤ m ∧ s8 = .int .i64 (k : Int) ∧ Hid (∀ j q, j < k → ts[j]? = some q → q.f0 ≠ s) ∧ Below w.heap.size w wx) (fun _ iv _ => m - (intOf iv).toNat)
  case atStart => exact ⟨0, by omega, rfl, Lib.hid (fun j q hj => absurd hj (by omega)), Below.refl _ _⟩
  case round =>
    obtain ⟨k, hk, rfl, Hne, hb⟩ := hrel
    by_cases h1 : (k : Int) < (m : Int)
    · obtain ⟨t, ht⟩ := get_at ts k (by omega)
      have hsx := hs.below hb
      obtain ⟨ad, rfl⟩ := slW_addr hs ht
      obtain ⟨y0, y1⟩ := slW_two hsx ht
      have hin : (0 : Int) ≤ (k : Int) ∧ (k : Int) < (m : Int) := by omega
      have hcx : wr.cell? ⟨g, 0, none⟩ = some (.int .i64 s) := (World.cell?_of_block (hb.block _ (World.block_lt_of_cell? _ _ hc))).trans hc
      have Ht := Lib.hid ht
      have Hl := Lib.hid hl
      clear ht hsx hl
      go_wp2_with fail
      refine (isWL_any t g s _ hcx).mono ?_; rintro x w3 ⟨rfl, hb3⟩
      have hb4 := hb.trans (hb3.mono hb.size)
      clear hb3 hb y0 y1 hcx hc hs
      by_cases h2 : t.f0 = s
      · go_wp2_with fail
        go_ret
        rw [indW_some Hne.out Ht.out h2]
        exact ⟨rfl, hb4⟩
      · go_wp2_with fail
        go_roundw
        case rel => exact ⟨k + 1, by omega, by go_num, Lib.hid (fun j q hj hq => by rcases Nat.lt_succ_iff_lt_or_eq.1 hj with hlt | rfl; exact Hne.out j q hlt hq; rw [Ht.out] at hq; cases hq; exact h2), hb4⟩
        case measure => simp [intOf]; omega
    · obtain rfl : k = m := by omega
      go_wp2_with fail
      go_ret
      rw [indW_none (by rw [hl]; exact Hne.out)]
      exact ⟨rfl, hb⟩
set_option maxHeartbeats 1000000 in
theorem knownW_any (A : Option Addr) (m d : Nat) (xs : List Wk) (id : Int) (w : World) (hs : Sl w 2 A m d (flatW xs)) (hm : m ≤ 1000000) :
    Calls Try.prog 40 #[.slice A m d, .int .i64 id] w fun e w' => e = .returned (.bool (knownW xs id)) ∧ Below w.heap.size w w' := by
  have hb0 := below_alloc1 w (.cells #[.int .i64 id] 3)
  have hmf : ∀ (fn : Fn) (first cap : Array Value) (w : World), (Instr.makeFunc fn first cap).run Try.prog w = .ok (.func fn first cap) w := fun _ _ _ _ => rfl
  have hs2 := hs.below hb0
  have hc : (w.alloc (.cells #[.int .i64 id] 3)).cell? ⟨w.heap.size, 0, none⟩ = some (.int .i64 id) := by
    obtain ⟨a, h1, h2⟩ := (sl_cells w [.int .i64 id] 3).cells 0 _ rfl
    cases h1
    exact h2
  go_enter Try.func40, Try.ntmps40
  go_wp2_with fail
  go_in
  go_wp2_with fail
  refine (indexK_any xs A m d w.heap.size id _ hs2 hm hc).mono ?_; rintro x w3 ⟨rfl, hb3⟩
  have hb4 := hb0.trans (hb3.mono hb0.size)
  go_wp2_with fail
  go_ret
  rw [known_ind]
  exact ⟨ret_bool (by simp), hb4⟩
end Go.Proofs.Ytphjmbhlokkdiaa
