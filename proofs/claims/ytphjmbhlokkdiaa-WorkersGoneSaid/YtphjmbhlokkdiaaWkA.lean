import Derived.Test.YtphjmbhlokkdiaaPureW
import Derived.Test.YtphjmbhlokkdiaaInsertW
import Derived.Deep.QuietTactic
import Derived.BigQuiet
/- The workers: right, who is gone, cloning, a worker's place. -/
namespace Go.Proofs.Ytphjmbhlokkdiaa
open Go.RowKit Go.Proofs.YtphjmbhlokkdiaaW.PrintWords Go.Proofs.YtphjmbhlokkdiaaW.PrintLast Go.Proofs.YtphjmbhlokkdiaaW.PrintMore
set_option linter.unusedSimpArgs false
set_option linter.unusedVariables false

theorem slW_len {w : World} {A : Option Addr} {m d : Nat} {ts : List Wk} (h : Sl w 2 A m d (flatW ts)) : ts.length = m := by have := h.len; rw [flatW_len] at this; omega
theorem slW_addr {w : World} {A : Option Addr} {m d : Nat} {ts : List Wk} (h : Sl w 2 A m d (flatW ts)) {k : Nat} {t : Wk} (hk : ts[k]? = some t) : ∃ ad, A = some ad := by
  obtain ⟨ad, h1, _⟩ := h.cells (k * 2 + 0) _ (flatMap_get wkC 2 (fun _ => rfl) hk (j := 0) rfl)
  exact ⟨ad, h1⟩
theorem slW_two {w : World} {ad : Addr} {m d : Nat} {ts : List Wk} (h : Sl w 2 (some ad) m d (flatW ts)) {k : Nat} {t : Wk} (hk : ts[k]? = some t) :
    w.cell? (ad.add (k * 2)) = some (.int .i64 t.f0) ∧ w.cell? { block := (ad.add (k * 2)).block, off := (ad.add (k * 2)).off + 1, spot := none } = some (.int .i64 t.f1) := by
  have key : ∀ j u, (wkC t)[j]? = some u → w.cell? ((ad.add (k * 2)).add j) = some u := by
    intro j u hj
    obtain ⟨a, h1, h2⟩ := h.cells (k * 2 + j) u (flatMap_get wkC 2 (fun _ => rfl) hk hj)
    cases h1
    rw [addr_add_add]; exact h2
  exact ⟨key 0 _ rfl, key 1 _ rfl⟩
/-- ranges, as the row hands them -/
def OkW (xs : List Wk) : Prop := ∀ x, x ∈ xs → (-9223372036854775808 ≤ x.f0 ∧ x.f0 ≤ 9223372036854775807) ∧ (-9223372036854775808 ≤ x.f1 ∧ x.f1 ≤ 9223372036854775807)

theorem chkW_bad {xs : List Wk} : ∀ {last : Int} {k : Nat} {x : Wk}, xs[k]? = some x → (∀ j y, j < k → xs[j]? = some y → True) → (decide ((if k = 0 then last else (xs.getD (k - 1) ⟨0, 0⟩).f0) < x.f0) && (decide (0 ≤ x.f1) && decide (x.f1 ≤ 1099511627776))) = false → chkW last xs = false := by
  induction xs with
  | nil => intro last k x h; simp at h
  | cons y r ih =>
    intro last k x h _ hb
    cases k with
    | zero =>
      simp at h
      subst h
      simp only [if_true] at hb
      simp only [chkW]
      revert hb
      cases decide (last < y.f0) <;> cases decide (0 ≤ y.f1) <;> cases decide (y.f1 ≤ 1099511627776) <;> simp
    | succ k =>
      have h2 : r[k]? = some x := by simpa using h
      have := ih (last := y.f0) h2 (fun _ _ _ _ => trivial) (by
        rw [← hb]
        congr 3
        cases k with
        | zero => simp
        | succ k => simp)
      simp [chkW, this]
theorem chkW_good {xs : List Wk} : ∀ {last : Int}, (∀ (k : Nat) (x : Wk), xs[k]? = some x → (if k = 0 then last else (xs.getD (k - 1) ⟨0, 0⟩).f0) < x.f0 ∧ 0 ≤ x.f1 ∧ x.f1 ≤ 1099511627776) → chkW last xs = true := by
  induction xs with
  | nil => intro last h; rfl
  | cons y r ih =>
    intro last h
    have h0 := h 0 y rfl
    simp only [if_true] at h0
    have := ih (last := y.f0) (fun k x hx => by
      have := h (k + 1) x (by simpa using hx)
      simp only [Nat.add_sub_cancel] at this
      cases k with
      | zero => simpa using this
      | succ k => simpa using this)
    simp [chkW, this, h0.1, h0.2.1, h0.2.2]

set_option maxRecDepth 100000 in
set_option maxHeartbeats 4000000 in
theorem wright_any (A : Option Addr) (m d : Nat) (xs : List Wk) (w : World) (hs : Sl w 2 A m d (flatW xs)) (hm : m ≤ 1000000) :
    Calls Try.prog 38 #[.slice A m d] w fun e w' => e = .returned (.bool (rightW xs)) ∧ Below w.heap.size w w' := by
  have hl := slW_len hs
  go_enter Try.func38, Try.ntmps38
  go_wp2_with fail
  go_loopw [3, 8] (fun s3 s8 wx => ∃ (k : Nat) (last : Int), k ≤ m ∧ s8 = .int .i64 (k : Int) ∧ s3 = .int .i64 last ∧ Hid (last = if k = 0 then 0 else (xs.getD (k - 1) ⟨0, 0⟩).f0) ∧ Hid (∀ j x, j < k → xs[j]? = some x → (if j = 0 then 0 else (xs.getD (j - 1) ⟨0, 0⟩).f0) < x.f0 ∧ 0 ≤ x.f1 ∧ x.f1 ≤ 1099511627776) ∧ Below w.heap.size w wx) (fun _ iv _ => m - (intOf iv).toNat)
  case atStart => exact ⟨0, 0, by omega, rfl, rfl, Lib.hid (by simp), Lib.hid (fun j q hj => absurd hj (by omega)), Below.refl _ _⟩
  case round =>
    obtain ⟨k, last, hk, rfl, rfl, HL, Hok, hb⟩ := hrel
    by_cases h1 : (k : Int) < (m : Int)
    · obtain ⟨t, ht⟩ := get_at xs k (by omega)
      have hsx := hs.below hb
      obtain ⟨ad, rfl⟩ := slW_addr hs ht
      obtain ⟨y0, y1⟩ := slW_two hsx ht
      have hin : (0 : Int) ≤ (k : Int) ∧ (k : Int) < (m : Int) := by omega
      have Ht := Lib.hid ht
      have Hl := Lib.hid hl
      have hbn := below_alloc1 wr (.cells #[.int .i64 t.f0, .int .i64 t.f1] 115)
      have hb4 := hb.trans (hbn.mono hb.size)
      clear ht hsx hl hb hbn hs
      by_cases h2 : t.f0 ≤ last
      · have hbad := chkW_bad (last := 0) Ht.out (fun _ _ _ _ => trivial) (by rw [← HL.out]; simp [show ¬ last < t.f0 by omega])
        have HB := Lib.hid hbad
        clear hbad
        go_wp2_with fail
        go_ret
        exact ⟨by simp [rightW, HB.out], hb4⟩
      by_cases h3 : t.f1 < 0
      · have hbad := chkW_bad (last := 0) Ht.out (fun _ _ _ _ => trivial) (by simp [show ¬ 0 ≤ t.f1 by omega])
        have HB := Lib.hid hbad
        clear hbad
        go_wp2_with fail
        go_ret
        exact ⟨by simp [rightW, HB.out], hb4⟩
      by_cases h4 : 1099511627776 < t.f1
      · have hbad := chkW_bad (last := 0) Ht.out (fun _ _ _ _ => trivial) (by simp [show ¬ t.f1 ≤ 1099511627776 by omega])
        have HB := Lib.hid hbad
        clear hbad
        go_wp2_with fail
        go_ret
        exact ⟨by simp [rightW, HB.out], hb4⟩
      · have Hg := Lib.hid (show last < t.f0 ∧ 0 ≤ t.f1 ∧ t.f1 ≤ 1099511627776 by omega)
        go_wp2_with fail
        go_roundw
        case rel => exact ⟨k + 1, t.f0, by omega, by go_num, rfl, Lib.hid (by rw [if_neg (by omega), Nat.add_sub_cancel, List.getD_eq_getElem?_getD, Ht.out]; rfl), Lib.hid (fun j x hj hx => by
          rcases Nat.lt_succ_iff_lt_or_eq.1 hj with hlt | rfl
          · exact Hok.out j x hlt hx
          · rw [Ht.out] at hx; cases hx; rw [← HL.out]; exact Hg.out), hb4⟩
        case measure => simp [intOf]; omega
    · obtain rfl : k = m := by omega
      have hg := chkW_good (xs := xs) (last := 0) (fun j x hx => Hok.out j x (by have := (List.getElem?_eq_some_iff.1 hx).1; omega) hx)
      have HG := Lib.hid hg
      have Hl := Lib.hid hl
      clear hg hl
      go_wp2_with fail
      go_ret
      exact ⟨by rw [rightW, HG.out, Hl.out]; simp; omega, hb⟩

theorem plusW_mm (a b : Int) : min (min (max a 0) 1099511627776 + min (max b 0) 1099511627776) 1099511627776 = plusW a b := by
  have h1 : ∀ x y : Int, mn x y = min x y := fun x y => by unfold mn; rw [Int.min_def]; split <;> split <;> omega
  have h2 : ∀ x y : Int, mx x y = max x y := fun x y => by unfold mx; rw [Int.max_def]; split <;> split <;> omega
  unfold plusW
  simp only [h1, h2]
theorem ret_i64 {a b : Int} (h : a = b) : Ending.returned (.int .i64 a) = .returned (.int .i64 b) := by rw [h]
set_option maxHeartbeats 1000000 in
theorem wplus_any (a b : Int) (w : World) : Calls Try.prog 78 #[.int .i64 a, .int .i64 b] w fun e w' => e = .returned (.int .i64 (plusW a b)) ∧ w = w' := by
  have hp := plusW_mm a b
  have Hp := Lib.hid hp
  clear hp
  go_enter Try.func78, Try.ntmps78
  go_wp2_with fail
  go_ret
  exact ⟨ret_i64 Hp.out, rfl⟩

def intsL (l : List Int) : List Value := l.map (Value.int .i64)
theorem intsL_one (l : List Int) : ∀ u ∈ intsL l, u.oneCell' = true := by
  intro u hu
  simp only [intsL, List.mem_map] at hu
  obtain ⟨x, _, rfl⟩ := hu
  rfl
theorem slI_cell {w : World} {A : Option Addr} {m d : Nat} {l : List Int} (h : Sl w 1 A m d (intsL l)) {k : Nat} {x : Int} (hk : l[k]? = some x) : ∃ ad, A = some ad ∧ w.cell? (ad.add k) = some (.int .i64 x) :=
  h.cells k _ (by rw [intsL, List.getElem?_map, hk]; rfl)
theorem slI_len {w : World} {A : Option Addr} {m d : Nat} {l : List Int} (h : Sl w 1 A m d (intsL l)) : l.length = m := by have := h.len; simpa [intsL] using this
theorem infoInt : (Try.prog.info? 3).map (fun i => (i.zero, i.size, i.bytes)) = some (some (.int .i64 0), 1, 8) := by kernel_rfl

set_option maxRecDepth 100000 in
set_option maxHeartbeats 4000000 in
/-- two lists that are the same -/
theorem kints_any (A B : Option Addr) (m d d2 : Nat) (l : List Int) (w : World) (hs : Sl w 1 A m d (intsL l)) (ht : Sl w 1 B m d2 (intsL l)) (hm : m ≤ 1000000) :
    Calls Try.prog 42 #[.slice A m d, .slice B m d2] w fun e w' => e = .returned (.bool true) ∧ Below w.heap.size w w' := by
  have hl := slI_len hs
  go_enter Try.func42, Try.ntmps42
  go_wp2_with fail
  go_loopw [5] (fun s5 wx => ∃ (k : Nat), k ≤ m ∧ s5 = .int .i64 (k : Int) ∧ Below w.heap.size w wx) (fun iv _ => m - (intOf iv).toNat)
  case atStart => exact ⟨0, by omega, rfl, Below.refl _ _⟩
  case round =>
    obtain ⟨k, hk, rfl, hb⟩ := hrel
    by_cases h1 : (k : Int) < (m : Int)
    · obtain ⟨x, hx⟩ := get_at l k (by omega)
      obtain ⟨ad, rfl, y0⟩ := slI_cell (hs.below hb) hx
      obtain ⟨ad2, rfl, y1⟩ := slI_cell (ht.below hb) hx
      have hin : (0 : Int) ≤ (k : Int) ∧ (k : Int) < (m : Int) := by omega
      have Hj := Lib.hid (show k + 1 ≤ m by omega)
      clear hx hs ht hl
      go_wp2_with fail
      go_quiet (fail)
      go_wp2_with fail
      go_roundw
      case rel => exact ⟨k + 1, Hj.out, by go_num, by apply pw_below_drewN; exact hb⟩
      case measure => have := Hj.out; simp [intOf]; omega
    · obtain rfl : k = m := by omega
      go_wp2_with fail
      go_ret
      exact ⟨rfl, hb⟩

set_option maxRecDepth 100000 in
set_option maxHeartbeats 4000000 in
theorem wgone_any (A : Option Addr) (m d : Nat) (xs : List Wk) (now most : Int) (w : World) (hs : Sl w 2 A m d (flatW xs)) (hm : m ≤ 1000000) :
    Calls Try.prog 31 #[.slice A m d, .int .i64 now, .int .i64 most] w fun e w' => ∃ A' c', e = .returned (.slice A' (goneW xs now most).length c') ∧ Sl w' 1 A' (goneW xs now most).length c' (intsL (goneW xs now most)) ∧ Below w.heap.size w w' := by
  have hl := slW_len hs
  go_enter Try.func31, Try.ntmps31
  obtain ⟨z, hz⟩ : ∃ z, rightW xs = z := ⟨_, rfl⟩
  have Hz := Lib.hid hz
  clear hz
  go_wp2_with fail
  refine (wright_any A m d xs _ hs hm).mono ?_; rintro x w2 ⟨rfl, hb0⟩
  rw [Hz.out]
  cases z with
  | false =>
    have HG := Lib.hid (show goneW xs now most = [] by simp [goneW, Hz.out])
    go_wp2_with fail
    go_ret
    rw [HG.out]
    exact ⟨none, 0, rfl, Sl.nil _ _, hb0⟩
  | true =>
    by_cases hm0 : most < 0
    · have HG := Lib.hid (show goneW xs now most = [] by simp [goneW, show ¬ 0 ≤ most by omega])
      go_wp2_with fail
      go_ret
      rw [HG.out]
      exact ⟨none, 0, rfl, Sl.nil _ _, hb0⟩
    · have HG := Lib.hid (show goneW xs now most = goneL xs now most by simp [goneW, Hz.out, show 0 ≤ most by omega])
      go_wp2_with fail
      go_loopw [7, 19] (fun s7 s19 wx => ∃ (k n : Nat) (A7 : Option Addr) (c7 : Nat), k ≤ m ∧ n ≤ k ∧ s19 = .int .i64 (k : Int) ∧ s7 = .slice A7 n c7 ∧ App w.heap.size 3 1 wx A7 n c7 (intsL (goneL (xs.take k) now most)) ∧ Below w.heap.size w wx) (fun _ iv _ => m - (intOf iv).toNat)
      case atStart => exact ⟨0, 0, none, 0, by omega, by omega, rfl, rfl, App.nil _ _ _ _, hb0⟩
      case round =>
        obtain ⟨k, n, A7, c7, hk, hnk, rfl, rfl, o7, hb⟩ := hrel
        by_cases h1 : (k : Int) < (m : Int)
        · obtain ⟨t, ht⟩ := get_at xs k (by omega)
          have hsx := hs.below hb
          obtain ⟨ad, rfl⟩ := slW_addr hs ht
          obtain ⟨y0, y1⟩ := slW_two hsx ht
          have hin : (0 : Int) ≤ (k : Int) ∧ (k : Int) < (m : Int) := by omega
          have Ht := Lib.hid ht
          have hbn := below_alloc1 wr (.cells #[.int .i64 t.f0, .int .i64 t.f1] 115)
          have hb4 := hb.trans (hbn.mono hb.size)
          have o8 := o7.below hbn
          have Hj := Lib.hid (show k + 1 ≤ m by omega)
          have HTk := Lib.hid (show xs.take (k + 1) = xs.take k ++ [t] by rw [List.take_add_one, ht]; rfl)
          clear ht hsx hb hbn o7 hl
          go_wp2_with fail
          refine (wplus_any _ _ _).mono ?_; rintro x w' ⟨rfl, rfl⟩
          by_cases h2 : plusW t.f1 most < now
          · have Hgn := Lib.hid (show goneL (xs.take (k + 1)) now most = goneL (xs.take k) now most ++ [t.f0] by rw [HTk.out]; simp [goneL, h2])
            have o9 := o8.alloc (.cells #[.int .i64 t.f0] 3)
            have bn := below_alloc1 (wr.alloc (.cells #[.int .i64 t.f0, .int .i64 t.f1] 115)) (.cells #[.int .i64 t.f0] 3)
            have s9 := sl_cells (wr.alloc (.cells #[.int .i64 t.f0, .int .i64 t.f1] 115)) [.int .i64 t.f0] 3
            have hz9 : (wr.alloc (.cells #[.int .i64 t.f0, .int .i64 t.f1] 115)).heap.size = wr.heap.size + 1 := by simp
            rw [hz9] at s9
            have hb5 := hb4.trans (bn.mono hb4.size)
            have Hbs := Lib.hid hb5.size
            clear o8 hb4 bn hz9
            go_wp2_with (at_builtin; refine wpList_app _ rfl (.tmp 29) (.tmp 32) 33 rfl w.heap.size 3 (.int .i64 0) 1 8 Try.underlying33 infoInt rfl (by decide) A7 n c7 _ rfl o9 (some ⟨wr.heap.size + 1, 0, none⟩) 1 1 [.int .i64 t.f0] rfl s9 (fun u hu => by simp at hu; subst hu; rfl) (by unfold maxLen; omega) (by omega) Hbs.out ?_; intro A10 d8 w8 hat8)
            have hb8 := hb5.trans ((hat8.below Hbs.out).mono (Nat.le_refl _))
            have ha10 := hat8.app
            go_roundw
            case rel => exact ⟨k + 1, n + 1, A10, d8, Hj.out, by omega, by go_num, rfl, by rw [Hgn.out]; simpa [intsL] using ha10, hb8⟩
            case measure => have := Hj.out; simp [intOf]; omega
          · have Hgn := Lib.hid (show goneL (xs.take (k + 1)) now most = goneL (xs.take k) now most by rw [HTk.out]; simp [goneL, h2])
            go_wp2_with fail
            go_roundw
            case rel => exact ⟨k + 1, n, A7, c7, Hj.out, by omega, by go_num, rfl, by rw [Hgn.out]; exact o8, hb4⟩
            case measure => have := Hj.out; simp [intOf]; omega
        · obtain rfl : k = m := by omega
          have HT := Lib.hid (show xs.take k = xs from List.take_of_length_le (by omega))
          go_wp2_with fail
          go_ret
          rw [HT.out] at o7
          rw [HG.out]
          have hn := o7.sl.len
          simp only [intsL, List.length_map, Nat.mul_one] at hn
          rw [hn]
          exact ⟨A7, c7, rfl, o7.sl, hb⟩
end Go.Proofs.Ytphjmbhlokkdiaa
