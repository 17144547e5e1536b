import Derived.Test.YtcidifmikcnkcaaRelB
import Derived.Test.YtcidifmikcnkcaaPureOne
/- RingDrops: the walk. -/
namespace Go.Proofs.Ytcidifmikcnkcaa
open Go.RowKit Go.Maps Go.WideShapes Go.WideMaps Go.Sort
set_option linter.unusedSimpArgs false
set_option linter.unusedVariables false

abbrev nQ : Nm := [113]
theorem nQ_len : nQ.length ≤ maxLen := by unfold maxLen; decide
theorem nQ_ok : namedB nQ = true := by rfl
theorem one_l {nm : Nm} {M m : Int} {l : List Int} : (one nm M m l).length ≤ 100000 := Nat.le_trans one_len (by omega)
theorem posI_mem {l : List Int} {x : Int} {k : Nat} (h : posI l x = some k) : l[k]? = some x ∧ (∀ j y, j < k → l[j]? = some y → y ≠ x) := by
  have hk := posI_lt h
  unfold posI at h
  rw [List.findIdx?_eq_some_iff_getElem] at h
  obtain ⟨h0, h1, h2⟩ := h
  refine ⟨by rw [List.getElem?_eq_getElem h0]; simpa using h1, fun j y hj hy e => ?_⟩
  obtain ⟨hj2, rfl⟩ := List.getElem?_eq_some_iff.1 hy
  have := h2 j hj
  simp [e] at this
theorem posI_none {l : List Int} {x : Int} (h : posI l x = none) : x ∉ l := by
  unfold posI at h
  rw [List.findIdx?_eq_none_iff] at h
  intro hx
  have := h x hx
  simp at this
theorem posI_some {l : List Int} {x : Int} {k : Nat} (h : posI l x = some k) : x ∈ l := List.mem_of_getElem? (posI_mem h).1
theorem posI_new {l : List Int} {x : Int} (h : x ∉ l) : posI l x = none := by
  unfold posI
  rw [List.findIdx?_eq_none_iff]
  intro y hy
  simp
  exact fun e => h (e ▸ hy)
theorem posI_last {l : List Int} {x : Int} (h : x ∉ l) : posI (l ++ [x]) x = some l.length := by
  unfold posI
  rw [List.findIdx?_eq_some_iff_getElem]
  refine ⟨by simp, by simp, fun j hj => ?_⟩
  rw [List.getElem_append_left hj]
  simp
  exact fun e => h (e ▸ List.getElem_mem hj)
theorem erase_last (l : List Int) (x : Int) : (l ++ [x]).eraseIdx l.length = l := by
  rw [List.eraseIdx_append_of_length_le (Nat.le_refl _)]
  simp
theorem mem_snoc {l : List Int} {k : Nat} {x n : Int} (h : l[k]? = some x) : decide (n ∈ l.take (k + 1)) = (decide (n ∈ l.take k) || decide (x = n)) := by
  rw [List.take_add_one, h]
  by_cases h1 : n ∈ l.take k <;> by_cases h2 : x = n <;> simp [h1, h2]
  exact fun e => h2 e.symm
theorem rot_next {l : List Int} {i : Nat} {x : Int} (h : l[i]? = some x) : l.drop i = x :: l.drop (i + 1) ∧ (l.drop (i + 1) ++ l.take i) ++ [x] = l.drop (i + 1) ++ l.take (i + 1) := by
  obtain ⟨h1, h2⟩ := List.getElem?_eq_some_iff.1 h
  refine ⟨by rw [← h2]; exact List.drop_eq_getElem_cons h1, ?_⟩
  rw [List.take_add_one, h]
  simp
theorem slI_take {w : World} {A : Option Addr} {n c : Nat} {l : List Int} (k : Nat) (hk : k ≤ n) (h : Sl w 1 A n c (intsL l)) : Sl w 1 A k c (intsL (l.take k)) := by
  have := h.to_ k hk
  rwa [Nat.mul_one, show (intsL l).take k = intsL (l.take k) by simp [intsL, List.map_take]] at this
theorem infoInt2 : ∃ i, Try.prog.info? 3 = some i ∧ i.size = 1 := by
  obtain ⟨i, h1, _, h2, _⟩ := info_parts infoInt
  exact ⟨i, h1, h2⟩
theorem cutF (A : Option Addr) (n c m : Nat) (M : Int) (hM : M = (m : Int)) (hm : m ≤ n) :
    ∃ A' : Option Addr, (∀ W : World, (Instr.slice 22 (.slice A n c) (some (.int .i64 M)) none none).run Try.prog W = .ok (.slice A' (n - m) (c - m)) W) ∧ ∀ (w : World) (l : List Int), Sl w 1 A n c (intsL l) → Sl w 1 A' (n - m) (c - m) (intsL (l.drop m)) := by
  obtain ⟨i, hi, hs⟩ := infoInt2
  obtain ⟨A', h1, _, h2⟩ := cut_from (P := Try.prog) 22 3 .i64 Try.underlying22 hi A n c m M hM hm
  refine ⟨A', h1, fun w l h => ?_⟩
  have := h2 w (intsL l) (by rw [hs]; exact h)
  rw [hs, Nat.mul_one] at this
  rwa [show (intsL l).drop m = intsL (l.drop m) by simp [intsL, List.map_drop]] at this
theorem cutT (A : Option Addr) (n c m : Nat) (M : Int) (hM : M = (m : Int)) (hm : m ≤ c) (W : World) : (Instr.slice 22 (.slice A n c) none (some (.int .i64 M)) none).run Try.prog W = .ok (.slice A m c) W := by
  obtain ⟨i, hi, hs⟩ := infoInt2
  exact cut_to (P := Try.prog) 22 3 .i64 Try.underlying22 hi A n c m M hM hm W
set_option maxRecDepth 100000 in
set_option maxHeartbeats 16000000 in
theorem walk_drops (L : Option Addr) (m d : Nat) (l : List Int) (n : Int) (a : Nat) (W : World) (ha : a ≤ 255) (hL : Sl W 1 L m d (intsL l)) (hm : m ≤ 9223372036854775807) (hn : -9223372036854775808 ≤ n ∧ n ≤ 9223372036854775807) :
    Calls Try.prog 9 #[.slice L m d, .int .i64 n, .int .u8 (a : Int)] W fun e w' => e = .returned (.bool true) ∧ Below W.heap.size W w' := by
  have hll := slI_len hL
  go_enter Try.func9, Try.ntmps9
  go_wp2_with fail
  refine (New_lab W 100).mono ?_; rintro e w0 ⟨hn0, b0⟩
  rw [if_pos (by decide)] at hn0
  obtain ⟨p, rfl, lab0, h0, hlab0⟩ := hn0
  have h0 : RIl w0 W.heap.size p 100 (one nQ 100 100 []) lab0 := h0
  have H0 := Lib.hid h0
  clear hlab0 h0
  obtain ⟨m0, hm0m, hm020, hm0⟩ : ∃ m0, m0 ≤ m ∧ m0 ≤ 30 ∧ (m ≤ m0 ∨ 30 ≤ m0) := ⟨min m 30, by omega, by omega, by omega⟩
  go_upto_block 0 with fail
  go_cut [9, 10] (fun s9 s10 wx => ∃ (A : Option Addr) (c : Nat) (lab : Nat → Option Lab), s9 = .slice A m0 c ∧ s10 = .bool (decide (n ∈ l.take m0)) ∧ App W.heap.size 3 1 wx A m0 c (intsL (l.take m0)) ∧ FreeA lab A wx ∧ Hid (RIl wx W.heap.size p 100 (one nQ 100 100 (l.take m0)) lab) ∧ Below W.heap.size W wx)
  case first =>
    go_wp2_with fail
    go_loopw [9, 10, 11] (fun s9 s10 s11 wx => ∃ (k : Nat) (A : Option Addr) (c : Nat) (lab : Nat → Option Lab), k ≤ m ∧ k ≤ 30 ∧ s9 = .slice A k c ∧ s10 = .bool (decide (n ∈ l.take k)) ∧ s11 = .int .i64 (k : Int) ∧ App W.heap.size 3 1 wx A k c (intsL (l.take k)) ∧ FreeA lab A wx ∧ Hid (RIl wx W.heap.size p 100 (one nQ 100 100 (l.take k)) lab) ∧ Below W.heap.size W wx) (fun _ _ iv _ => 30 - (intOf iv).toNat)
    case atStart => exact ⟨0, none, 0, lab0, by omega, by omega, rfl, by simp, rfl, App.nil _ _ _ _, FreeA.none _ _, H0, b0⟩
    case round =>
      clear H0 b0
      obtain ⟨k, A, c, lab, hkm, hk20, rfl, rfl, rfl, aM, fA, HR, bx⟩ := hrel
      by_cases h3 : (k : Int) < (m : Int)
      · by_cases h4 : (k : Int) < 30
        · obtain ⟨x, hx⟩ := get_some l k (by omega)
          obtain ⟨ad, rfl, hcell⟩ := slI_cell (hL.below bx) hx
          have hcl : (l.take k).length = k := by rw [List.length_take]; omega
          have hp : putR (one nQ 100 100 (l.take k)) 100 nQ x = (0, one nQ 100 100 (l.take (k + 1))) := by
            rw [one_put nQ_ok, if_neg (by rw [hcl]; omega), List.take_add_one, hx]; rfl
          have hms := mem_snoc (n := n) hx
          have hin : (0 : Int) ≤ (k : Int) ∧ (k : Int) < (m : Int) := by omega
          have Hx := Lib.hid hx
          have HP := Lib.hid hp
          have HM := Lib.hid hms
          have hR := HR.out
          clear hx hp hcl HR hms
          go_wp2_with fail
          refine (Put_lab hR nQ nQ_len x one_l).mono ?_; rintro e w2 ⟨rfl, ⟨lab2, h2, c2⟩, b2⟩
          rw [HP.out] at h2
          have bB := bx.trans b2
          obtain ⟨ad', had', hcell2⟩ := slI_cell (hL.below bB) Hx.out
          cases had'
          have aM2 := aM.chg c2 fA
          have fA2 := fA.chg c2
          have bn := below_alloc1 w2 (.cells #[.int .i64 x] 3)
          have aM3 := aM2.below bn
          have fA3 := fA2.size bn.size
          have h3' := Lib.hid (h2.below bn)
          have bC := bB.trans (bn.mono bB.size)
          have sl3 := sl_cells w2 [.int .i64 x] 3
          have hB3 := bC.size
          clear aM2 fA2 bn h2 c2 b2 aM fA hR bx bB HP hcell
          obtain ⟨th, hth⟩ : ∃ th, decide (n ∈ l.take k) = th := ⟨_, rfl⟩
          rw [hth]
          have Hth := Lib.hid hth
          clear hth
          go_upto_region 11 with (at_builtin; refine wpList_app _ rfl (.tmp 44) (.tmp 49) 22 rfl W.heap.size 3 (.int .i64 0) 1 8 Try.underlying22 infoInt rfl (by decide) A k c _ rfl aM3 (some ⟨w2.heap.size, 0, none⟩) 1 1 [.int .i64 x] rfl sl3 (fun u hu => by simp at hu; subst hu; rfl) (by unfold maxLen; omega) (by omega) hB3 ?_; intro A8 d8 w4 hat)
          have h4' := h3'.out.appended hat.grown fA3
          have fA4 := fA3.frm h3'.out hat.lies hat.grown.size (hat.app.lts (by simp))
          have bD := bC.trans (hat.below hB3)
          have aM4 := hat.app
          rw [← addr_ints _ _ _ Hx.out] at aM4
          obtain ⟨ad', had', hcell4⟩ := slI_cell (hL.below bD) Hx.out
          cases had'
          have H4 := Lib.hid h4'
          clear hat aM3 fA3 h3' bC sl3 hB3 hcell2 h4'
          cases th with
          | true =>
            go_wp2_with fail
            go_roundw
            case rel => exact ⟨k + 1, A8, d8, lab2, by omega, by omega, rfl, by rw [HM.out, Hth.out]; rfl, by go_num, aM4, fA4, H4, bD⟩
            case measure => simp [intOf]; omega
          | false =>
            by_cases hxn : x = n
            · go_wp2_with fail
              go_roundw
              case rel => exact ⟨k + 1, A8, d8, lab2, by omega, by omega, rfl, by rw [HM.out, Hth.out, hxn]; simp, by go_num, aM4, fA4, H4, bD⟩
              case measure => simp [intOf]; omega
            · go_wp2_with fail
              go_roundw
              case rel => exact ⟨k + 1, A8, d8, lab2, by omega, by omega, rfl, by rw [HM.out, Hth.out]; simp [hxn], by go_num, aM4, fA4, H4, bD⟩
              case measure => simp [intOf]; omega
        · obtain rfl : k = m0 := by omega
          go_wp2_with fail
          go_meet
          exact ⟨A, c, lab, rfl, rfl, aM, fA, HR, bx⟩
      · obtain rfl : k = m0 := by omega
        go_wp2_with fail
        go_meet
        exact ⟨A, c, lab, rfl, rfl, aM, fA, HR, bx⟩
  case rest =>
    clear H0 b0
    obtain ⟨A, c, lab, rfl, rfl, aM, fA, HR, bx⟩ := hcut
    have hmnl : (l.take m0).length = m0 := by rw [List.length_take]; omega
    obtain ⟨l0, hl0⟩ : ∃ l0, l0 = l.take m0 := ⟨_, rfl⟩
    rw [← hl0] at aM HR hmnl ⊢
    clear hl0 hm0 hL hll hm0m
    have hR := HR.out
    have hbase := bx.size
    have hdr := one_drop (nm := nQ) (M := 100) (m := 100) (l := l0) nQ_ok n
    cases hp : posI l0 n with
    | none =>
      rw [hp] at hdr
      have hnm := posI_none hp
      have HN := Lib.hid hnm
      have hdc : decide (n ∈ l0) = false := by simpa using hnm
      rw [hdc]
      have HD := Lib.hid hdr
      clear hp hdr hdc hnm HR
      go_wp2_with fail
      refine (Drop_lab hR nQ nQ_len n one_l).mono ?_; rintro e w2 ⟨rfl, ⟨lab2, h2, c2⟩, b2⟩
      rw [HD.out] at h2 ⊢
      have aM2 := aM.chg c2 fA
      have fA2 := fA.chg c2
      have bC := bx.trans b2
      obtain ⟨l1, hl1⟩ : ∃ l1, l1 = l0 := ⟨_, rfl⟩
      obtain ⟨n1, hn1⟩ : ∃ n1, n1 = m0 := ⟨_, rfl⟩
      have hl1n : l1.length = n1 := by rw [hl1, hn1]; exact hmnl
      have hn30 : n1 ≤ 30 := by omega
      rw [← hl1] at h2 aM2
      rw [← hn1] at aM2 ⊢
      clear c2 b2 aM fA bx hR HD hl1 hn1 HN hbase
      have hbase := bC.size
      go_wp2_with fail
      refine (has_any h2.is nQ nQ_len A n1 c l1 aM2.sl (by rw [one_getQ nQ_ok]) (by omega)).mono ?_; rintro e w3 ⟨rfl, b3⟩
      have h3' := h2.below b3
      have aM3 := aM2.below b3
      have fA3 := fA2.size b3.size
      have bD := bC.trans (b3.mono bC.size)
      clear h2 aM2 fA2 bC b3
      go_wp2_with fail
      refine (All_any h3'.is nQ nQ_len).mono ?_; rintro e w4 ⟨A4, c4, rfl, o4, b4⟩
      rw [one_getQ nQ_ok] at o4 ⊢
      simp only [hl1n] at o4 ⊢
      have h4' := h3'.below b4
      have aM4 := aM3.below b4
      have fA4 := fA3.size b4.size
      have bE := bD.trans (b4.mono bD.size)
      have HT4 := Lib.hid (show ∀ g, A4 = some ⟨g, 0, none⟩ → lab2 g = none from fun g hg => by
        rcases o4.2 with ⟨h9, _⟩ | ⟨g9, cap9, cur9, h9, h91, _⟩
        · simp only [Value.slice.injEq] at h9
          rw [h9.1] at hg; cases hg
        · simp only [Value.slice.injEq] at h9
          rw [h9.1] at hg; cases hg
          exact h3'.labN h91)
      have HT5 := Lib.hid (show ∀ g, A4 = some ⟨g, 0, none⟩ → ∀ a2, A = some a2 → a2.block ≠ g from fun g hg a2 ha2 => by
        have h1 := (fA3 a2 ha2).2
        rcases o4.2 with ⟨h9, _⟩ | ⟨g9, cap9, cur9, h9, h91, _⟩
        · simp only [Value.slice.injEq] at h9
          rw [h9.1] at hg; cases hg
        · simp only [Value.slice.injEq] at h9
          rw [h9.1] at hg; cases hg
          omega)
      have HT6 := Lib.hid (show ∀ g, A4 = some ⟨g, 0, none⟩ → W.heap.size ≤ g from fun g hg => by
        have h1 := bD.size
        rcases o4.2 with ⟨h9, _⟩ | ⟨g9, cap9, cur9, h9, h91, _⟩
        · simp only [Value.slice.injEq] at h9
          rw [h9.1] at hg; cases hg
        · simp only [Value.slice.injEq] at h9
          rw [h9.1] at hg; cases hg
          omega)
      have H4 := Lib.hid h4'
      clear h3' aM3 fA3 bD b4 h4'
      go_wp2_with fail
      go_loopw [92] (fun s92 wx => ∃ (j : Nat) (ls : List Int), j ≤ n1 ∧ ls.length = n1 ∧ s92 = .int .i64 (j : Int) ∧ Own w3.heap.size 3 1 wx A4 n1 c4 (intsL ls) ∧ App W.heap.size 3 1 wx A n1 c (intsL l1) ∧ FreeA lab2 A wx ∧ Hid (RIl wx W.heap.size p 100 (one nQ 100 100 l1) lab2) ∧ Below W.heap.size W wx) (fun iv _ => n1 - (intOf iv).toNat)
      case atStart => exact ⟨0, l1, by omega, hl1n, rfl, o4, aM4, fA4, H4, bE⟩
      case round =>
        clear o4 aM4 fA4 H4 bE
        obtain ⟨j, ls, hj, hls, rfl, o5, aM5, fA5, H5, bF⟩ := hrel
        rename World => wr
        by_cases hjn : j < n1
        · obtain ⟨x, hx⟩ := get_some ls j (by omega)
          obtain ⟨g, rfl, _, _⟩ := own_addr o5 (by omega)
          have hcell := own_cell o5 hx
          have hfz := World.ownsRow.frozenAt o5 j
          have st := World.ownsRow.stored o5 j (.int .i64 (wrap64 (x + 1)))
          have hin : (0 : Int) ≤ (j : Int) ∧ (j : Int) < (n1 : Int) := by omega
          have o6 : Own w3.heap.size 3 1 (wr.setCell ⟨g, j, none⟩ (.int .i64 (wrap64 (x + 1)))) (some ⟨g, 0, none⟩) n1 c4 (intsL (ls.set j (wrap64 (x + 1)))) := by
            have h9 := st.1
            unfold Own
            rw [show intsL (ls.set j (wrap64 (x + 1))) = (intsL ls).set j (.int .i64 (wrap64 (x + 1))) by simp [intsL, List.map_set]]
            exact h9
          have aM6 := aM5.kept st.2 (fun a2 ha2 e => HT5.out g rfl a2 ha2 (Option.some.inj e))
          have fA6 := fA5.size st.2.size
          have H6 := Lib.hid (H5.out.grown st.2 (HT4.out g rfl))
          have bG := bF.grown st.2 bF.size (fun q hq => by cases hq; exact HT6.out g rfl)
          clear hx o5 aM5 fA5 H5 bF st
          obtain ⟨y, hy⟩ : ∃ y, y = wrap64 (x + 1) := ⟨_, rfl⟩
          go_wp2_with fail
          go_roundw
          case rel => exact ⟨j + 1, _, by omega, by rw [List.length_set]; exact hls, by go_num, o6, aM6, fA6, H6, bG⟩
          case measure => simp [intOf]; omega
        · obtain rfl : j = n1 := by omega
          clear o5 HT4 HT5 HT6
          have hS5 := aM5.sl
          go_wp2_with fail
          go_loopw [15, 104] (fun s15 s104 wx => ∃ (i : Nat), i ≤ j ∧ s104 = .int .i64 (i : Int) ∧ s15 = .bool (decide (n ∈ l1.take i)) ∧ wr = wx) (fun _ iv _ => j - (intOf iv).toNat)
          case atStart => exact ⟨0, by omega, rfl, by simp, rfl⟩
          case round =>
            obtain ⟨i, hi, rfl, rfl, rfl⟩ := hrel
            by_cases hij : i < j
            · obtain ⟨x, hx⟩ := get_some l1 i (by omega)
              obtain ⟨ad, rfl, hcell⟩ := slI_cell hS5 hx
              have hin : (0 : Int) ≤ (i : Int) ∧ (i : Int) < (j : Int) := by omega
              have HM := Lib.hid (mem_snoc (n := n) hx)
              obtain ⟨th, hth⟩ : ∃ th, decide (n ∈ l1.take i) = th := ⟨_, rfl⟩
              rw [hth]
              have Hth := Lib.hid hth
              clear hth hx
              cases th with
              | true =>
                go_wp2_with fail
                go_roundw
                case rel => exact ⟨i + 1, by omega, by go_num, by rw [HM.out, Hth.out]; rfl, trivial⟩
                case measure => simp [intOf]; omega
              | false =>
                by_cases hxn : x = n
                · go_wp2_with fail
                  go_roundw
                  case rel => exact ⟨i + 1, by omega, by go_num, by rw [HM.out, Hth.out, hxn]; simp, trivial⟩
                  case measure => simp [intOf]; omega
                · go_wp2_with fail
                  go_roundw
                  case rel => exact ⟨i + 1, by omega, by go_num, by rw [HM.out, Hth.out]; simp [hxn], trivial⟩
                  case measure => simp [intOf]; omega
            · obtain rfl : i = j := by omega
              rw [List.take_of_length_le (by omega)]
              obtain ⟨n1, rfl⟩ : ∃ n1, n1 = i := ⟨_, rfl⟩
              clear hS5
              by_cases hmem : n ∈ l1
              · have hdc : decide (n ∈ l1) = true := by simpa using hmem
                rw [hdc]
                clear hdc hmem
                obtain ⟨w8, rfl⟩ : ∃ w8 : World, w8 = wr := ⟨_, rfl⟩
                have h8 := H5
                have aM8 := aM5
                have fA8 := fA5
                have bH := bF
                obtain ⟨lab8, rfl⟩ : ∃ lab8, lab8 = lab2 := ⟨_, rfl⟩
                clear H5 aM5 fA5 bF
                obtain ⟨kk, hkk⟩ : ∃ kk, kk = a % (n1 + 1) := ⟨_, rfl⟩
                have hkn : kk ≤ n1 := by have := Nat.mod_lt a (show 0 < n1 + 1 by omega); omega
                have hq2 : (a : Int) % ((n1 : Int) + 1) = (kk : Int) := by rw [hkk, Int.natCast_emod, Int.natCast_add]; rfl
                have hq1 : (a : Int).tmod ((n1 : Int) + 1) = (kk : Int) := by rw [Int.tmod_eq_emod_of_nonneg (by omega), hq2]
                have hq3 : ¬ ((n1 : Int) + 1 = 0) := by omega
                clear hkk
                go_wp2_with fail
                go_loopw [18] (fun s18 wx => ∃ (i : Nat) (lab : Nat → Option Lab), i ≤ kk ∧ s18 = .int .i64 (i : Int) ∧ App W.heap.size 3 1 wx A n1 c (intsL l1) ∧ FreeA lab A wx ∧ Hid (RIl wx W.heap.size p 100 (one nQ 100 100 (l1.drop i ++ l1.take i)) lab) ∧ Below W.heap.size W wx) (fun iv _ => kk - (intOf iv).toNat)
                case atStart => exact ⟨0, lab8, by omega, rfl, aM8, fA8, by rw [List.drop_zero, List.take_zero, List.append_nil]; exact h8, bH⟩
                case round =>
                  clear aM8 fA8 h8 bH
                  obtain ⟨i, lab, hi, rfl, aM1, fA1, HR, bx⟩ := hrel
                  by_cases hik : i < kk
                  · obtain ⟨x, hx⟩ := get_some l1 i (by omega)
                    obtain ⟨e1, e2⟩ := rot_next hx
                    have ht : lookR (getQ (one nQ 100 100 (l1.drop i ++ l1.take i)) 100 nQ) = (x, true) := by rw [one_getQ nQ_ok, e1]; rfl
                    have htk : takeR (one nQ 100 100 (l1.drop i ++ l1.take i)) 100 nQ = one nQ 100 100 (l1.drop (i + 1) ++ l1.take i) := by rw [e1]; exact one_take nQ_ok _ _
                    have hp : putR (one nQ 100 100 (l1.drop (i + 1) ++ l1.take i)) 100 nQ x = (0, one nQ 100 100 (l1.drop (i + 1) ++ l1.take (i + 1))) := by
                      rw [one_put nQ_ok, if_neg (by have hln : (l1.drop (i + 1) ++ l1.take i).length ≤ 30 := (by rw [List.length_append, List.length_drop, List.length_take]; omega); omega), e2]
                    have HT := Lib.hid ht
                    have HTK := Lib.hid htk
                    have HP := Lib.hid hp
                    have hR := HR.out
                    clear hx e1 e2 ht htk hp HR
                    go_wp2_with fail
                    refine (Take_lab hR nQ nQ_len one_l).mono ?_; rintro e w2 ⟨rfl, ⟨lab2, h2, c2⟩, b2⟩
                    rw [HTK.out] at h2
                    rw [HT.out]
                    have aM2 := aM1.chg c2 fA1
                    have fA2 := fA1.chg c2
                    have bC := bx.trans b2
                    clear aM1 fA1 c2 b2 bx hR HTK HT
                    go_wp2_with fail
                    refine (Put_lab h2 nQ nQ_len x one_l).mono ?_; rintro e w3 ⟨rfl, ⟨lab3, h3', c3⟩, b3⟩
                    rw [HP.out] at h3' ⊢
                    have aM3 := aM2.chg c3 fA2
                    have fA3 := fA2.chg c3
                    have bD := bC.trans b3
                    clear aM2 fA2 c3 b3 bC h2 HP
                    go_wp2_with fail
                    go_roundw
                    case rel => exact ⟨i + 1, lab3, by omega, by go_num, aM3, fA3, Lib.hid h3', bD⟩
                    case measure => simp [intOf]; omega
                  · obtain rfl : i = kk := by omega
                    clear hik hi
                    obtain ⟨k, rfl⟩ : ∃ k, k = i := ⟨_, rfl⟩
                    go_upto_region 42 with fail
                    rename World => wz
                    have HS := Lib.hid aM1.sl
                    have hle := aM1.sl.le
                    have HCT := Lib.hid (fun w => cutT A n1 c k (k : Int) rfl (by omega) w)
                    obtain ⟨AX, hAX1, hAX2⟩ := cutF A n1 c k (k : Int) rfl (by omega)
                    have HTk := Lib.hid (fun (w' : World) (h : Sl w' 1 A n1 c (intsL l1)) => slI_take k (by omega) h)
                    obtain ⟨kk, hkk⟩ : ∃ kk, kk = n1 - k := ⟨_, rfl⟩
                    rw [← hkk] at hAX1 hAX2
                    have HCF := Lib.hid hAX1
                    have HDk := Lib.hid (fun (w' : World) (h : Sl w' 1 A n1 c (intsL l1)) => hAX2 w' l1 h)
                    have HLR := Lib.hid (show (getQ (one nQ 100 100 (l1.drop k ++ l1.take k)) 100 nQ).l = l1.drop k ++ l1.take k by rw [one_getQ nQ_ok])
                    have HNR := Lib.hid (show (l1.drop k ++ l1.take k).length = n1 by rw [List.length_append, List.length_drop, List.length_take]; omega)
                    obtain ⟨LR, hLR⟩ : ∃ LR, LR = l1.drop k ++ l1.take k := ⟨_, rfl⟩
                    obtain ⟨NR, hNR⟩ : ∃ NR, NR = n1 := ⟨_, rfl⟩
                    have HLI := Lib.hid (show intsL LR = intsL (l1.drop k) ++ intsL (l1.take k) by rw [hLR]; simp [intsL])
                    have HNR2 := Lib.hid (show NR = kk + k by omega)
                    rw [← hLR] at HLR HNR HR
                    rw [← hNR] at HNR
                    have HRI := HR
                    have hnr : NR ≤ 1000000 := by omega
                    have hk30 : k ≤ 30 := by omega
                    have hkk30 : kk ≤ 30 := by omega
                    clear aM1 fA1 hAX1 hAX2 hLR hNR hkk hq1 hq2 hq3
                    --@region 9 42 drops42.spec
                    refine wp_region_runE [10, 11] (fun _ _ => True) (by kernel_rfl) (by kernel_rfl) (by kernel_rfl) (R := R4 (max kk 1) wz.heap.size NR (intsL LR)) (fun _ _ h => R4.below h) (fun _ _ _ => R4.trans) (fun _ _ _ _ _ => trivial) trivial ?_
                    apply RunE.pure (by decide)
                    · intro vs w hb hd; clear hd; simp only [List.take, putL, Act.put, List.setIfInBounds_toArray, List.set_cons_zero, List.set_cons_succ]; unfold StepOK; go_simp; exact ⟨Below.refl _ _, isV_mk _ _⟩
                    refine RunE.such (by decide) (isF wz.heap.size 3 NR (intsL LR)) (isF_st _) ?_ ?_
                    · intro vs w hb hd; have d0 : isV _ (vs 0) w := hd 0 (by decide) (by kernel_rfl); unfold isV at d0; clear hd; have hR2 := HRI.out.below (R4.bel hb (Nat.le_refl _)); simp only [List.take, putL, Act.put, List.setIfInBounds_toArray, List.set_cons_zero, List.set_cons_succ]; unfold StepOK; go_simp; exact ⟨Below.refl _ _, isF_such hb.r.size (All_any hR2.is nQ nQ_len) HLR.out HNR.out⟩
                    refine RunE.such (by decide) (isZ wz.heap.size 3 1) (isZ_st4 _ _) ?_ ?_
                    · intro vs w hb hd; clear hd; have hB := hb.r.size; simp only [List.take, putL, Act.put, List.setIfInBounds_toArray, List.set_cons_zero, List.set_cons_succ]; unfold StepOK; go_simp; exact ⟨below_alloc1 _ _, _, rfl, World.ownsRow_lit _ #[] 0 hB (by unfold maxLen; omega) rfl⟩
                    apply RunE.pure (by decide)
                    · intro vs w hb hd; clear hd; simp only [List.take, putL, Act.put, List.setIfInBounds_toArray, List.set_cons_zero, List.set_cons_succ]; unfold StepOK; go_simp; exact ⟨Below.refl _ _, isV_mk _ _⟩
                    apply RunE.pure (by decide)
                    · intro vs w hb hd; clear hd; simp only [List.take, putL, Act.put, List.setIfInBounds_toArray, List.set_cons_zero, List.set_cons_succ]; unfold StepOK; go_simp; exact ⟨Below.refl _ _, isV_mk _ _⟩
                    apply RunE.pure (by decide)
                    · intro vs w hb hd; have d3 : isV _ (vs 3) w := hd 3 (by decide) (by kernel_rfl); unfold isV at d3; have d4 : isV _ (vs 4) w := hd 4 (by decide) (by kernel_rfl); unfold isV at d4; clear hd; have hx1 := HCF.out w; simp only [List.take, putL, Act.put, List.setIfInBounds_toArray, List.set_cons_zero, List.set_cons_succ]; unfold StepOK; go_simp; exact ⟨Below.refl _ _, isV_mk _ _⟩
                    refine RunE.such (by decide) (isP wz.heap.size 3 1 kk (intsL (l1.drop k))) (isP_st4 _ _ _ _ (by omega)) ?_ ?_
                    · intro vs w hb hd; have d1 := hd 1 (by decide) (by kernel_rfl); simp only [TR, Nat.reduceAdd, Nat.reduceSub, List.getD_cons_zero, List.getD_cons_succ] at d1; have d2 := hd 2 (by decide) (by kernel_rfl); simp only [TR, Nat.reduceAdd, Nat.reduceSub, List.getD_cons_zero, List.getD_cons_succ] at d2; have d5 : isV _ (vs 5) w := hd 5 (by decide) (by kernel_rfl); unfold isV at d5; clear hd; obtain ⟨b, e0, oz⟩ := isZ_elim d2; have oX := HS.out.below (R4.bel hb (Nat.le_refl _)); obtain ⟨A', d', w', hrun, o', hb', hc0⟩ := run_app0 (P := Try.prog) w wz.heap.size 22 22 3 (.int .i64 0) 1 8 Try.underlying22 infoInt rfl (by decide) ⟨b, 0, none⟩ oz _ kk _ (intsL (l1.drop k)) (HDk.out _ oX) (intsL_one _) (by unfold maxLen; omega) (by omega) hb.r.size; exact stepOK_app rfl (.tmp 165) (.tmp 168) 22 rfl (by simp [Act.eval, putL, Act.put, e0]) (by simp [Act.eval, putL, Act.put, d5]) hrun hb' ⟨A', d', rfl, o', hc0⟩
                    apply RunE.pure (by decide)
                    · intro vs w hb hd; clear hd; simp only [List.take, putL, Act.put, List.setIfInBounds_toArray, List.set_cons_zero, List.set_cons_succ]; unfold StepOK; go_simp; exact ⟨Below.refl _ _, isV_mk _ _⟩
                    apply RunE.pure (by decide)
                    · intro vs w hb hd; clear hd; simp only [List.take, putL, Act.put, List.setIfInBounds_toArray, List.set_cons_zero, List.set_cons_succ]; unfold StepOK; go_simp; exact ⟨Below.refl _ _, isV_mk _ _⟩
                    apply RunE.pure (by decide)
                    · intro vs w hb hd; have d7 : isV _ (vs 7) w := hd 7 (by decide) (by kernel_rfl); unfold isV at d7; have d8 : isV _ (vs 8) w := hd 8 (by decide) (by kernel_rfl); unfold isV at d8; clear hd; have hx1 := HCT.out w; simp only [List.take, putL, Act.put, List.setIfInBounds_toArray, List.set_cons_zero, List.set_cons_succ]; unfold StepOK; go_simp; exact ⟨Below.refl _ _, isV_mk _ _⟩
                    refine RunE.eff (by decide) (isJ wz.heap.size 3 1 NR (intsL LR)) (isJ_st _ _ _ _ _) ?_ ?_
                    · intro vs w hb hd hj; have d6 := hd 6 (by decide) (by kernel_rfl); simp only [TR, Nat.reduceAdd, Nat.reduceSub, List.getD_cons_zero, List.getD_cons_succ] at d6; have d9 : isV _ (vs 9) w := hd 9 (by decide) (by kernel_rfl); unfold isV at d9; clear hd; have hj2 := hj; (try simp only [prevE, lastV, List.mem_cons, List.not_mem_nil, or_false, Nat.reduceEqDiff, Nat.reduceAdd, if_true, if_false, reduceIte, or_true, true_or, or_self] at hj2); clear hj; obtain ⟨A9, c9, e9, o9, hz9⟩ := isP_elim d6; have oX := HS.out.below (R4.bel hb (Nat.le_refl _)); obtain ⟨A', d', w', hrun, o', hr'⟩ := run_app4 (P := Try.prog) w (max kk 1) wz.heap.size 22 22 3 (.int .i64 0) 8 Try.underlying22 infoInt rfl A9 kk c9 _ o9 (by by_cases h0 : kk = 0; exact .inr (hz9 h0); exact .inl (by omega)) _ _ _ _ (HTk.out _ oX) (intsL_one _) (by unfold maxLen; omega) (by omega) hb.r.size; exact stepE_app rfl (.tmp 169) (.tmp 172) 22 rfl (by simp [Act.eval, putL, Act.put, e9]) (by simp [Act.eval, putL, Act.put, d9]) hrun (by rw [HLI.out, HNR2.out]; exact hr') ⟨A', d', by rw [HNR2.out], by rw [HLI.out, HNR2.out]; exact o'⟩
                    refine RunE.effV (c := (.bool true)) (by decide) ((fun v _ => v = .bool true)) (fun _ _ _ _ h => h) (fun v w h => h) ?_ ?_
                    · intro vs w hb hd hj; have d1 := hd 1 (by decide) (by kernel_rfl); simp only [TR, Nat.reduceAdd, Nat.reduceSub, List.getD_cons_zero, List.getD_cons_succ] at d1; clear hd; have hj2 := hj; (try simp only [prevE, lastV, List.mem_cons, List.not_mem_nil, or_false, Nat.reduceEqDiff, Nat.reduceAdd, if_true, if_false, reduceIte, or_true, true_or, or_self] at hj2); clear hj; obtain ⟨A1, c1, e1, o1⟩ := isF_elim d1; obtain ⟨A10, c10, e10, o10⟩ := hj2; simp only [List.take, putL, Act.put, List.setIfInBounds_toArray, List.set_cons_zero, List.set_cons_succ]; unfold StepE; go_simp; exact ⟨R4.below (Below.refl _ _), (sameInts_any A1 A10 NR c1 c10 LR w o1.sl o10.sl (by omega)).mono (fun e w' ⟨he, hw⟩ => by first | exact ⟨_, he, R4.below hw, rfl⟩ | exact ⟨R4.below hw, he⟩ | exact ⟨he, R4.below hw⟩ | (subst he; exact ⟨_, rfl, R4.below hw, rfl⟩))⟩
                    apply RunE.pure (by decide)
                    · intro vs w hb hd; have d11 : isV _ (vs 11) w := hd 11 (by decide) (by kernel_rfl); unfold isV at d11; clear hd; simp only [List.take, putL, Act.put, List.setIfInBounds_toArray, List.set_cons_zero, List.set_cons_succ]; unfold StepOK; go_simp; exact ⟨Below.refl _ _, isV_mk _ _⟩
                    refine RunE.such (by decide) (isV (.bool true)) (isV_stableR _) ?_ ?_
                    · intro vs w hb hd; have d12 : isV _ (vs 12) w := hd 12 (by decide) (by kernel_rfl); unfold isV at d12; clear hd; simp only [List.take, putL, Act.put, List.setIfInBounds_toArray, List.set_cons_zero, List.set_cons_succ]; unfold StepOK; go_simp; exact ⟨Below.refl _ _, such_of_bool (awake8_any _)⟩
                    apply RunE.pure (by decide)
                    · intro vs w hb hd; have d12 : isV _ (vs 12) w := hd 12 (by decide) (by kernel_rfl); unfold isV at d12; have d13 := hd 13 (by decide) (by kernel_rfl); simp only [TR, Nat.reduceAdd, Nat.reduceSub, List.getD_cons_zero, List.getD_cons_succ] at d13; clear hd; unfold isV at d13; simp only [List.take, putL, Act.put, List.setIfInBounds_toArray, List.set_cons_zero, List.set_cons_succ]; unfold StepOK; go_simp; exact ⟨Below.refl _ _, isV_mk _ _⟩
                    apply RunE.pure (by decide)
                    · intro vs w hb hd; have d0 : isV _ (vs 0) w := hd 0 (by decide) (by kernel_rfl); unfold isV at d0; have d1 := hd 1 (by decide) (by kernel_rfl); simp only [TR, Nat.reduceAdd, Nat.reduceSub, List.getD_cons_zero, List.getD_cons_succ] at d1; have d2 := hd 2 (by decide) (by kernel_rfl); simp only [TR, Nat.reduceAdd, Nat.reduceSub, List.getD_cons_zero, List.getD_cons_succ] at d2; have d3 : isV _ (vs 3) w := hd 3 (by decide) (by kernel_rfl); unfold isV at d3; have d4 : isV _ (vs 4) w := hd 4 (by decide) (by kernel_rfl); unfold isV at d4; have d5 : isV _ (vs 5) w := hd 5 (by decide) (by kernel_rfl); unfold isV at d5; have d6 := hd 6 (by decide) (by kernel_rfl); simp only [TR, Nat.reduceAdd, Nat.reduceSub, List.getD_cons_zero, List.getD_cons_succ] at d6; have d7 : isV _ (vs 7) w := hd 7 (by decide) (by kernel_rfl); unfold isV at d7; have d8 : isV _ (vs 8) w := hd 8 (by decide) (by kernel_rfl); unfold isV at d8; have d9 : isV _ (vs 9) w := hd 9 (by decide) (by kernel_rfl); unfold isV at d9; have d11 : isV _ (vs 11) w := hd 11 (by decide) (by kernel_rfl); unfold isV at d11; have d12 : isV _ (vs 12) w := hd 12 (by decide) (by kernel_rfl); unfold isV at d12; have d13 := hd 13 (by decide) (by kernel_rfl); simp only [TR, Nat.reduceAdd, Nat.reduceSub, List.getD_cons_zero, List.getD_cons_succ] at d13; have d14 : isV _ (vs 14) w := hd 14 (by decide) (by kernel_rfl); unfold isV at d14; clear hd; simp only [List.take, putL, Act.put, List.setIfInBounds_toArray, List.set_cons_zero, List.set_cons_succ]; unfold StepOK; go_simp; exact ⟨Below.refl _ _, isV_mk _ _⟩
                    intro vs w1 hb hd hj
                    try simp only [prevE, lastV, List.mem_cons, List.not_mem_nil, or_false, Nat.reduceEqDiff, Nat.reduceAdd, if_true, if_false, reduceIte, or_true, true_or, or_self] at hj
                    have e0 : isV _ (vs 0) w1 := hd 0 (by decide)
                    have e1 := hd 1 (by decide); simp only [TR, Nat.reduceAdd, Nat.reduceSub, List.getD_cons_zero, List.getD_cons_succ] at e1
                    have e2 := hd 2 (by decide); simp only [TR, Nat.reduceAdd, Nat.reduceSub, List.getD_cons_zero, List.getD_cons_succ] at e2
                    have e3 : isV _ (vs 3) w1 := hd 3 (by decide)
                    have e4 : isV _ (vs 4) w1 := hd 4 (by decide)
                    have e5 : isV _ (vs 5) w1 := hd 5 (by decide)
                    have e6 := hd 6 (by decide); simp only [TR, Nat.reduceAdd, Nat.reduceSub, List.getD_cons_zero, List.getD_cons_succ] at e6
                    have e7 : isV _ (vs 7) w1 := hd 7 (by decide)
                    have e8 : isV _ (vs 8) w1 := hd 8 (by decide)
                    have e9 : isV _ (vs 9) w1 := hd 9 (by decide)
                    have e11 : isV _ (vs 11) w1 := hd 11 (by decide)
                    have e12 : isV _ (vs 12) w1 := hd 12 (by decide)
                    have e13 := hd 13 (by decide); simp only [TR, Nat.reduceAdd, Nat.reduceSub, List.getD_cons_zero, List.getD_cons_succ] at e13
                    have e14 : isV _ (vs 14) w1 := hd 14 (by decide)
                    have e15 : isV _ (vs 15) w1 := hd 15 (by decide)
                    clear hd
                    unfold isV at e0 e3 e4 e5 e7 e8 e9 e11 e12 e14 e15
                    simp only [putL, Act.put, List.setIfInBounds_toArray, List.set_cons_zero, List.set_cons_succ, e0, e3, e4, e5, e7, e8, e9, e11, e12, e14, e15]
                    clear e0 e3 e4 e5 e7 e8 e9 e11 e12 e14 e15
                    --@end
                    go_wp2_with fail
                    go_ret
                    exact ⟨rfl, bx.trans ((R4.bel hb (Nat.le_refl _)).mono bx.size)⟩
              · have hdc : decide (n ∈ l1) = false := by simpa using hmem
                rw [hdc]
                have hp6 : putR (one nQ 100 100 l1) 100 nQ n = (0, one nQ 100 100 (l1 ++ [n])) := by rw [one_put nQ_ok, if_neg (by omega)]
                have hd7 : dropR (one nQ 100 100 (l1 ++ [n])) 100 nQ n = (true, one nQ 100 100 l1) := by rw [one_drop nQ_ok, posI_last hmem]; simp only [erase_last]
                have hd8 : dropR (one nQ 100 100 l1) 100 nQ n = (false, one nQ 100 100 l1) := by rw [one_drop nQ_ok, posI_new hmem]
                have HP6 := Lib.hid hp6
                have HD7 := Lib.hid hd7
                have HD8 := Lib.hid hd8
                have hR5 := H5.out
                clear hdc hmem hp6 hd7 hd8 H5
                go_wp2_with fail
                refine (Put_lab hR5 nQ nQ_len n one_l).mono ?_; rintro e w6 ⟨rfl, ⟨lab6, h6, c6⟩, b6⟩
                rw [HP6.out] at h6 ⊢
                have aM6 := aM5.chg c6 fA5
                have fA6 := fA5.chg c6
                have bG := bF.trans b6
                clear aM5 fA5 bF c6 b6 hR5 HP6
                go_wp2_with fail
                refine (Drop_lab h6 nQ nQ_len n one_l).mono ?_; rintro e w7 ⟨rfl, ⟨lab7, h7, c7⟩, b7⟩
                rw [HD7.out] at h7 ⊢
                have aM7 := aM6.chg c7 fA6
                have fA7 := fA6.chg c7
                have bG7 := bG.trans b7
                clear aM6 fA6 bG c7 b7 h6 HD7
                go_wp2_with fail
                refine (Drop_lab h7 nQ nQ_len n one_l).mono ?_; rintro e w8 ⟨rfl, ⟨lab8, h8', c8⟩, b8⟩
                rw [HD8.out] at h8' ⊢
                have aM8 := aM7.chg c8 fA7
                have fA8 := fA7.chg c8
                have bH := bG7.trans b8
                have h8 := Lib.hid h8'
                clear aM7 fA7 bG7 c8 b8 h7 HD8 h8'
                obtain ⟨kk, hkk⟩ : ∃ kk, kk = a % (n1 + 1) := ⟨_, rfl⟩
                have hkn : kk ≤ n1 := by have := Nat.mod_lt a (show 0 < n1 + 1 by omega); omega
                have hq2 : (a : Int) % ((n1 : Int) + 1) = (kk : Int) := by rw [hkk, Int.natCast_emod, Int.natCast_add]; rfl
                have hq1 : (a : Int).tmod ((n1 : Int) + 1) = (kk : Int) := by rw [Int.tmod_eq_emod_of_nonneg (by omega), hq2]
                have hq3 : ¬ ((n1 : Int) + 1 = 0) := by omega
                clear hkk
                go_wp2_with fail
                go_loopw [18] (fun s18 wx => ∃ (i : Nat) (lab : Nat → Option Lab), i ≤ kk ∧ s18 = .int .i64 (i : Int) ∧ App W.heap.size 3 1 wx A n1 c (intsL l1) ∧ FreeA lab A wx ∧ Hid (RIl wx W.heap.size p 100 (one nQ 100 100 (l1.drop i ++ l1.take i)) lab) ∧ Below W.heap.size W wx) (fun iv _ => kk - (intOf iv).toNat)
                case atStart => exact ⟨0, lab8, by omega, rfl, aM8, fA8, by rw [List.drop_zero, List.take_zero, List.append_nil]; exact h8, bH⟩
                case round =>
                  clear aM8 fA8 h8 bH
                  obtain ⟨i, lab, hi, rfl, aM1, fA1, HR, bx⟩ := hrel
                  by_cases hik : i < kk
                  · obtain ⟨x, hx⟩ := get_some l1 i (by omega)
                    obtain ⟨e1, e2⟩ := rot_next hx
                    have ht : lookR (getQ (one nQ 100 100 (l1.drop i ++ l1.take i)) 100 nQ) = (x, true) := by rw [one_getQ nQ_ok, e1]; rfl
                    have htk : takeR (one nQ 100 100 (l1.drop i ++ l1.take i)) 100 nQ = one nQ 100 100 (l1.drop (i + 1) ++ l1.take i) := by rw [e1]; exact one_take nQ_ok _ _
                    have hp : putR (one nQ 100 100 (l1.drop (i + 1) ++ l1.take i)) 100 nQ x = (0, one nQ 100 100 (l1.drop (i + 1) ++ l1.take (i + 1))) := by
                      rw [one_put nQ_ok, if_neg (by have hln : (l1.drop (i + 1) ++ l1.take i).length ≤ 30 := (by rw [List.length_append, List.length_drop, List.length_take]; omega); omega), e2]
                    have HT := Lib.hid ht
                    have HTK := Lib.hid htk
                    have HP := Lib.hid hp
                    have hR := HR.out
                    clear hx e1 e2 ht htk hp HR
                    go_wp2_with fail
                    refine (Take_lab hR nQ nQ_len one_l).mono ?_; rintro e w2 ⟨rfl, ⟨lab2, h2, c2⟩, b2⟩
                    rw [HTK.out] at h2
                    rw [HT.out]
                    have aM2 := aM1.chg c2 fA1
                    have fA2 := fA1.chg c2
                    have bC := bx.trans b2
                    clear aM1 fA1 c2 b2 bx hR HTK HT
                    go_wp2_with fail
                    refine (Put_lab h2 nQ nQ_len x one_l).mono ?_; rintro e w3 ⟨rfl, ⟨lab3, h3', c3⟩, b3⟩
                    rw [HP.out] at h3' ⊢
                    have aM3 := aM2.chg c3 fA2
                    have fA3 := fA2.chg c3
                    have bD := bC.trans b3
                    clear aM2 fA2 c3 b3 bC h2 HP
                    go_wp2_with fail
                    go_roundw
                    case rel => exact ⟨i + 1, lab3, by omega, by go_num, aM3, fA3, Lib.hid h3', bD⟩
                    case measure => simp [intOf]; omega
                  · obtain rfl : i = kk := by omega
                    clear hik hi
                    obtain ⟨k, rfl⟩ : ∃ k, k = i := ⟨_, rfl⟩
                    go_upto_region 42 with fail
                    rename World => wz
                    have HS := Lib.hid aM1.sl
                    have hle := aM1.sl.le
                    have HCT := Lib.hid (fun w => cutT A n1 c k (k : Int) rfl (by omega) w)
                    obtain ⟨AX, hAX1, hAX2⟩ := cutF A n1 c k (k : Int) rfl (by omega)
                    have HTk := Lib.hid (fun (w' : World) (h : Sl w' 1 A n1 c (intsL l1)) => slI_take k (by omega) h)
                    obtain ⟨kk, hkk⟩ : ∃ kk, kk = n1 - k := ⟨_, rfl⟩
                    rw [← hkk] at hAX1 hAX2
                    have HCF := Lib.hid hAX1
                    have HDk := Lib.hid (fun (w' : World) (h : Sl w' 1 A n1 c (intsL l1)) => hAX2 w' l1 h)
                    have HLR := Lib.hid (show (getQ (one nQ 100 100 (l1.drop k ++ l1.take k)) 100 nQ).l = l1.drop k ++ l1.take k by rw [one_getQ nQ_ok])
                    have HNR := Lib.hid (show (l1.drop k ++ l1.take k).length = n1 by rw [List.length_append, List.length_drop, List.length_take]; omega)
                    obtain ⟨LR, hLR⟩ : ∃ LR, LR = l1.drop k ++ l1.take k := ⟨_, rfl⟩
                    obtain ⟨NR, hNR⟩ : ∃ NR, NR = n1 := ⟨_, rfl⟩
                    have HLI := Lib.hid (show intsL LR = intsL (l1.drop k) ++ intsL (l1.take k) by rw [hLR]; simp [intsL])
                    have HNR2 := Lib.hid (show NR = kk + k by omega)
                    rw [← hLR] at HLR HNR HR
                    rw [← hNR] at HNR
                    have HRI := HR
                    have hnr : NR ≤ 1000000 := by omega
                    have hk30 : k ≤ 30 := by omega
                    have hkk30 : kk ≤ 30 := by omega
                    clear aM1 fA1 hAX1 hAX2 hLR hNR hkk hq1 hq2 hq3
                    --@region 9 42 drops42.spec
                    refine wp_region_runE [10, 11] (fun _ _ => True) (by kernel_rfl) (by kernel_rfl) (by kernel_rfl) (R := R4 (max kk 1) wz.heap.size NR (intsL LR)) (fun _ _ h => R4.below h) (fun _ _ _ => R4.trans) (fun _ _ _ _ _ => trivial) trivial ?_
                    apply RunE.pure (by decide)
                    · intro vs w hb hd; clear hd; simp only [List.take, putL, Act.put, List.setIfInBounds_toArray, List.set_cons_zero, List.set_cons_succ]; unfold StepOK; go_simp; exact ⟨Below.refl _ _, isV_mk _ _⟩
                    refine RunE.such (by decide) (isF wz.heap.size 3 NR (intsL LR)) (isF_st _) ?_ ?_
                    · intro vs w hb hd; have d0 : isV _ (vs 0) w := hd 0 (by decide) (by kernel_rfl); unfold isV at d0; clear hd; have hR2 := HRI.out.below (R4.bel hb (Nat.le_refl _)); simp only [List.take, putL, Act.put, List.setIfInBounds_toArray, List.set_cons_zero, List.set_cons_succ]; unfold StepOK; go_simp; exact ⟨Below.refl _ _, isF_such hb.r.size (All_any hR2.is nQ nQ_len) HLR.out HNR.out⟩
                    refine RunE.such (by decide) (isZ wz.heap.size 3 1) (isZ_st4 _ _) ?_ ?_
                    · intro vs w hb hd; clear hd; have hB := hb.r.size; simp only [List.take, putL, Act.put, List.setIfInBounds_toArray, List.set_cons_zero, List.set_cons_succ]; unfold StepOK; go_simp; exact ⟨below_alloc1 _ _, _, rfl, World.ownsRow_lit _ #[] 0 hB (by unfold maxLen; omega) rfl⟩
                    apply RunE.pure (by decide)
                    · intro vs w hb hd; clear hd; simp only [List.take, putL, Act.put, List.setIfInBounds_toArray, List.set_cons_zero, List.set_cons_succ]; unfold StepOK; go_simp; exact ⟨Below.refl _ _, isV_mk _ _⟩
                    apply RunE.pure (by decide)
                    · intro vs w hb hd; clear hd; simp only [List.take, putL, Act.put, List.setIfInBounds_toArray, List.set_cons_zero, List.set_cons_succ]; unfold StepOK; go_simp; exact ⟨Below.refl _ _, isV_mk _ _⟩
                    apply RunE.pure (by decide)
                    · intro vs w hb hd; have d3 : isV _ (vs 3) w := hd 3 (by decide) (by kernel_rfl); unfold isV at d3; have d4 : isV _ (vs 4) w := hd 4 (by decide) (by kernel_rfl); unfold isV at d4; clear hd; have hx1 := HCF.out w; simp only [List.take, putL, Act.put, List.setIfInBounds_toArray, List.set_cons_zero, List.set_cons_succ]; unfold StepOK; go_simp; exact ⟨Below.refl _ _, isV_mk _ _⟩
                    refine RunE.such (by decide) (isP wz.heap.size 3 1 kk (intsL (l1.drop k))) (isP_st4 _ _ _ _ (by omega)) ?_ ?_
                    · intro vs w hb hd; have d1 := hd 1 (by decide) (by kernel_rfl); simp only [TR, Nat.reduceAdd, Nat.reduceSub, List.getD_cons_zero, List.getD_cons_succ] at d1; have d2 := hd 2 (by decide) (by kernel_rfl); simp only [TR, Nat.reduceAdd, Nat.reduceSub, List.getD_cons_zero, List.getD_cons_succ] at d2; have d5 : isV _ (vs 5) w := hd 5 (by decide) (by kernel_rfl); unfold isV at d5; clear hd; obtain ⟨b, e0, oz⟩ := isZ_elim d2; have oX := HS.out.below (R4.bel hb (Nat.le_refl _)); obtain ⟨A', d', w', hrun, o', hb', hc0⟩ := run_app0 (P := Try.prog) w wz.heap.size 22 22 3 (.int .i64 0) 1 8 Try.underlying22 infoInt rfl (by decide) ⟨b, 0, none⟩ oz _ kk _ (intsL (l1.drop k)) (HDk.out _ oX) (intsL_one _) (by unfold maxLen; omega) (by omega) hb.r.size; exact stepOK_app rfl (.tmp 165) (.tmp 168) 22 rfl (by simp [Act.eval, putL, Act.put, e0]) (by simp [Act.eval, putL, Act.put, d5]) hrun hb' ⟨A', d', rfl, o', hc0⟩
                    apply RunE.pure (by decide)
                    · intro vs w hb hd; clear hd; simp only [List.take, putL, Act.put, List.setIfInBounds_toArray, List.set_cons_zero, List.set_cons_succ]; unfold StepOK; go_simp; exact ⟨Below.refl _ _, isV_mk _ _⟩
                    apply RunE.pure (by decide)
                    · intro vs w hb hd; clear hd; simp only [List.take, putL, Act.put, List.setIfInBounds_toArray, List.set_cons_zero, List.set_cons_succ]; unfold StepOK; go_simp; exact ⟨Below.refl _ _, isV_mk _ _⟩
                    apply RunE.pure (by decide)
                    · intro vs w hb hd; have d7 : isV _ (vs 7) w := hd 7 (by decide) (by kernel_rfl); unfold isV at d7; have d8 : isV _ (vs 8) w := hd 8 (by decide) (by kernel_rfl); unfold isV at d8; clear hd; have hx1 := HCT.out w; simp only [List.take, putL, Act.put, List.setIfInBounds_toArray, List.set_cons_zero, List.set_cons_succ]; unfold StepOK; go_simp; exact ⟨Below.refl _ _, isV_mk _ _⟩
                    refine RunE.eff (by decide) (isJ wz.heap.size 3 1 NR (intsL LR)) (isJ_st _ _ _ _ _) ?_ ?_
                    · intro vs w hb hd hj; have d6 := hd 6 (by decide) (by kernel_rfl); simp only [TR, Nat.reduceAdd, Nat.reduceSub, List.getD_cons_zero, List.getD_cons_succ] at d6; have d9 : isV _ (vs 9) w := hd 9 (by decide) (by kernel_rfl); unfold isV at d9; clear hd; have hj2 := hj; (try simp only [prevE, lastV, List.mem_cons, List.not_mem_nil, or_false, Nat.reduceEqDiff, Nat.reduceAdd, if_true, if_false, reduceIte, or_true, true_or, or_self] at hj2); clear hj; obtain ⟨A9, c9, e9, o9, hz9⟩ := isP_elim d6; have oX := HS.out.below (R4.bel hb (Nat.le_refl _)); obtain ⟨A', d', w', hrun, o', hr'⟩ := run_app4 (P := Try.prog) w (max kk 1) wz.heap.size 22 22 3 (.int .i64 0) 8 Try.underlying22 infoInt rfl A9 kk c9 _ o9 (by by_cases h0 : kk = 0; exact .inr (hz9 h0); exact .inl (by omega)) _ _ _ _ (HTk.out _ oX) (intsL_one _) (by unfold maxLen; omega) (by omega) hb.r.size; exact stepE_app rfl (.tmp 169) (.tmp 172) 22 rfl (by simp [Act.eval, putL, Act.put, e9]) (by simp [Act.eval, putL, Act.put, d9]) hrun (by rw [HLI.out, HNR2.out]; exact hr') ⟨A', d', by rw [HNR2.out], by rw [HLI.out, HNR2.out]; exact o'⟩
                    refine RunE.effV (c := (.bool true)) (by decide) ((fun v _ => v = .bool true)) (fun _ _ _ _ h => h) (fun v w h => h) ?_ ?_
                    · intro vs w hb hd hj; have d1 := hd 1 (by decide) (by kernel_rfl); simp only [TR, Nat.reduceAdd, Nat.reduceSub, List.getD_cons_zero, List.getD_cons_succ] at d1; clear hd; have hj2 := hj; (try simp only [prevE, lastV, List.mem_cons, List.not_mem_nil, or_false, Nat.reduceEqDiff, Nat.reduceAdd, if_true, if_false, reduceIte, or_true, true_or, or_self] at hj2); clear hj; obtain ⟨A1, c1, e1, o1⟩ := isF_elim d1; obtain ⟨A10, c10, e10, o10⟩ := hj2; simp only [List.take, putL, Act.put, List.setIfInBounds_toArray, List.set_cons_zero, List.set_cons_succ]; unfold StepE; go_simp; exact ⟨R4.below (Below.refl _ _), (sameInts_any A1 A10 NR c1 c10 LR w o1.sl o10.sl (by omega)).mono (fun e w' ⟨he, hw⟩ => by first | exact ⟨_, he, R4.below hw, rfl⟩ | exact ⟨R4.below hw, he⟩ | exact ⟨he, R4.below hw⟩ | (subst he; exact ⟨_, rfl, R4.below hw, rfl⟩))⟩
                    apply RunE.pure (by decide)
                    · intro vs w hb hd; have d11 : isV _ (vs 11) w := hd 11 (by decide) (by kernel_rfl); unfold isV at d11; clear hd; simp only [List.take, putL, Act.put, List.setIfInBounds_toArray, List.set_cons_zero, List.set_cons_succ]; unfold StepOK; go_simp; exact ⟨Below.refl _ _, isV_mk _ _⟩
                    refine RunE.such (by decide) (isV (.bool true)) (isV_stableR _) ?_ ?_
                    · intro vs w hb hd; have d12 : isV _ (vs 12) w := hd 12 (by decide) (by kernel_rfl); unfold isV at d12; clear hd; simp only [List.take, putL, Act.put, List.setIfInBounds_toArray, List.set_cons_zero, List.set_cons_succ]; unfold StepOK; go_simp; exact ⟨Below.refl _ _, such_of_bool (awake8_any _)⟩
                    apply RunE.pure (by decide)
                    · intro vs w hb hd; have d12 : isV _ (vs 12) w := hd 12 (by decide) (by kernel_rfl); unfold isV at d12; have d13 := hd 13 (by decide) (by kernel_rfl); simp only [TR, Nat.reduceAdd, Nat.reduceSub, List.getD_cons_zero, List.getD_cons_succ] at d13; clear hd; unfold isV at d13; simp only [List.take, putL, Act.put, List.setIfInBounds_toArray, List.set_cons_zero, List.set_cons_succ]; unfold StepOK; go_simp; exact ⟨Below.refl _ _, isV_mk _ _⟩
                    apply RunE.pure (by decide)
                    · intro vs w hb hd; have d0 : isV _ (vs 0) w := hd 0 (by decide) (by kernel_rfl); unfold isV at d0; have d1 := hd 1 (by decide) (by kernel_rfl); simp only [TR, Nat.reduceAdd, Nat.reduceSub, List.getD_cons_zero, List.getD_cons_succ] at d1; have d2 := hd 2 (by decide) (by kernel_rfl); simp only [TR, Nat.reduceAdd, Nat.reduceSub, List.getD_cons_zero, List.getD_cons_succ] at d2; have d3 : isV _ (vs 3) w := hd 3 (by decide) (by kernel_rfl); unfold isV at d3; have d4 : isV _ (vs 4) w := hd 4 (by decide) (by kernel_rfl); unfold isV at d4; have d5 : isV _ (vs 5) w := hd 5 (by decide) (by kernel_rfl); unfold isV at d5; have d6 := hd 6 (by decide) (by kernel_rfl); simp only [TR, Nat.reduceAdd, Nat.reduceSub, List.getD_cons_zero, List.getD_cons_succ] at d6; have d7 : isV _ (vs 7) w := hd 7 (by decide) (by kernel_rfl); unfold isV at d7; have d8 : isV _ (vs 8) w := hd 8 (by decide) (by kernel_rfl); unfold isV at d8; have d9 : isV _ (vs 9) w := hd 9 (by decide) (by kernel_rfl); unfold isV at d9; have d11 : isV _ (vs 11) w := hd 11 (by decide) (by kernel_rfl); unfold isV at d11; have d12 : isV _ (vs 12) w := hd 12 (by decide) (by kernel_rfl); unfold isV at d12; have d13 := hd 13 (by decide) (by kernel_rfl); simp only [TR, Nat.reduceAdd, Nat.reduceSub, List.getD_cons_zero, List.getD_cons_succ] at d13; have d14 : isV _ (vs 14) w := hd 14 (by decide) (by kernel_rfl); unfold isV at d14; clear hd; simp only [List.take, putL, Act.put, List.setIfInBounds_toArray, List.set_cons_zero, List.set_cons_succ]; unfold StepOK; go_simp; exact ⟨Below.refl _ _, isV_mk _ _⟩
                    intro vs w1 hb hd hj
                    try simp only [prevE, lastV, List.mem_cons, List.not_mem_nil, or_false, Nat.reduceEqDiff, Nat.reduceAdd, if_true, if_false, reduceIte, or_true, true_or, or_self] at hj
                    have e0 : isV _ (vs 0) w1 := hd 0 (by decide)
                    have e1 := hd 1 (by decide); simp only [TR, Nat.reduceAdd, Nat.reduceSub, List.getD_cons_zero, List.getD_cons_succ] at e1
                    have e2 := hd 2 (by decide); simp only [TR, Nat.reduceAdd, Nat.reduceSub, List.getD_cons_zero, List.getD_cons_succ] at e2
                    have e3 : isV _ (vs 3) w1 := hd 3 (by decide)
                    have e4 : isV _ (vs 4) w1 := hd 4 (by decide)
                    have e5 : isV _ (vs 5) w1 := hd 5 (by decide)
                    have e6 := hd 6 (by decide); simp only [TR, Nat.reduceAdd, Nat.reduceSub, List.getD_cons_zero, List.getD_cons_succ] at e6
                    have e7 : isV _ (vs 7) w1 := hd 7 (by decide)
                    have e8 : isV _ (vs 8) w1 := hd 8 (by decide)
                    have e9 : isV _ (vs 9) w1 := hd 9 (by decide)
                    have e11 : isV _ (vs 11) w1 := hd 11 (by decide)
                    have e12 : isV _ (vs 12) w1 := hd 12 (by decide)
                    have e13 := hd 13 (by decide); simp only [TR, Nat.reduceAdd, Nat.reduceSub, List.getD_cons_zero, List.getD_cons_succ] at e13
                    have e14 : isV _ (vs 14) w1 := hd 14 (by decide)
                    have e15 : isV _ (vs 15) w1 := hd 15 (by decide)
                    clear hd
                    unfold isV at e0 e3 e4 e5 e7 e8 e9 e11 e12 e14 e15
                    simp only [putL, Act.put, List.setIfInBounds_toArray, List.set_cons_zero, List.set_cons_succ, e0, e3, e4, e5, e7, e8, e9, e11, e12, e14, e15]
                    clear e0 e3 e4 e5 e7 e8 e9 e11 e12 e14 e15
                    --@end
                    go_wp2_with fail
                    go_ret
                    exact ⟨rfl, bx.trans ((R4.bel hb (Nat.le_refl _)).mono bx.size)⟩
    | some k =>
      rw [hp] at hdr
      obtain ⟨hat, hbf⟩ := posI_mem hp
      have hk := posI_lt hp
      have HAt := Lib.hid hat
      have HBf := Lib.hid hbf
      have hdc : decide (n ∈ l0) = true := by simpa using posI_some hp
      rw [hdc]
      have HD := Lib.hid hdr
      clear hp hdr hdc hat hbf HR
      go_wp2_with fail
      refine (Drop_lab hR nQ nQ_len n one_l).mono ?_; rintro e w2 ⟨rfl, ⟨lab2, h2, c2⟩, b2⟩
      rw [HD.out] at h2 ⊢
      have aM1 := aM.chg c2 fA
      have fA1 := fA.chg c2
      have bC := bx.trans b2
      have H2 := Lib.hid h2
      have hS1 := aM1.sl
      clear c2 b2 aM fA bx hR HD h2
      go_wp2_with fail
      go_loopw [12] (fun s12 wx => ∃ j : Nat, j ≤ k ∧ s12 = .int .i64 (j : Int) ∧ w2 = wx) (fun iv _ => k - (intOf iv).toNat)
      case atStart => exact ⟨0, by omega, rfl, rfl⟩
      case round =>
        obtain ⟨j, hj, rfl, rfl⟩ := hrel
        obtain ⟨x, hx⟩ := get_some l0 j (by omega)
        obtain ⟨ad, rfl, hcell⟩ := slI_cell hS1 hx
        have hin : (0 : Int) ≤ (j : Int) ∧ (j : Int) < (m0 : Int) := by omega
        by_cases hjk : j < k
        · have hxn := HBf.out j x hjk hx
          have Hx := Lib.hid hx
          clear hx
          go_wp2_with fail
          go_roundw
          case rel => exact ⟨j + 1, by omega, by go_num, trivial⟩
          case measure => simp [intOf]; omega
        · obtain rfl : j = k := by omega
          rw [HAt.out] at hx
          cases hx
          go_upto_region 18 with fail
          obtain ⟨wz, hwz⟩ : ∃ wz : World, wz = w2 := ⟨_, rfl⟩
          rw [← hwz] at aM1 fA1 bC H2 hS1 ⊢
          clear hwz hcell
          obtain ⟨k, rfl⟩ : ∃ k, k = j := ⟨_, rfl⟩
          have HS := Lib.hid hS1
          have hle := hS1.le
          have HCT := Lib.hid (fun w => cutT (some ad) m0 c k (k : Int) rfl (by omega) w)
          obtain ⟨AX, hAX1, hAX2⟩ := cutF (some ad) m0 c (k + 1) ((k : Int) + 1) (by omega) (by omega)
          have HCF := Lib.hid hAX1
          have HTk := Lib.hid (fun (w' : World) (h : Sl w' 1 (some ad) m0 c (intsL l0)) => slI_take k (by omega) h)
          have HDk := Lib.hid (fun (w' : World) (h : Sl w' 1 (some ad) m0 c (intsL l0)) => hAX2 w' l0 h)
          obtain ⟨LX, hLX⟩ : ∃ LX, LX = l0.take k ++ l0.drop (k + 1) := ⟨_, rfl⟩
          obtain ⟨NX, hNX⟩ : ∃ NX, NX = k + (m0 - (k + 1)) := ⟨_, rfl⟩
          have HLX := Lib.hid (show intsL LX = intsL (l0.take k) ++ intsL (l0.drop (k + 1)) by rw [hLX]; simp [intsL])
          have HNX := Lib.hid hNX
          have HLX2 := Lib.hid (show l0.eraseIdx k = LX by rw [hLX, List.eraseIdx_eq_take_drop_succ])
          have hlx : LX.length = NX := by rw [hLX, hNX]; simp; omega
          have h0 : k < m0 := by omega
          have hwk : IntKind.i64.wrap ((k : Int) + 1) = (k : Int) + 1 := by rw [IntKind.wrap_i64]; omega
          clear hLX hNX hAX1 hAX2 hS1
          --@region 9 18 drops18.spec
          refine wp_region_runE [9, 10] (fun _ _ => True) (by kernel_rfl) (by kernel_rfl) (by kernel_rfl) (R := R3 (max k 1) wz.heap.size) (fun _ _ h => R3.below h) (fun _ _ _ => R3.trans) (fun _ _ _ _ _ => trivial) trivial ?_
          refine RunE.such (by decide) (isZ wz.heap.size 3 1) (isZ_st _ _ _ _) ?_ ?_
          · intro vs w hb hd; clear hd; have hB := hb.size; simp only [List.take, putL, Act.put, List.setIfInBounds_toArray, List.set_cons_zero, List.set_cons_succ]; unfold StepOK; go_simp; exact ⟨below_alloc1 _ _, _, rfl, World.ownsRow_lit _ #[] 0 hB (by unfold maxLen; omega) rfl⟩
          apply RunE.pure (by decide)
          · intro vs w hb hd; clear hd; simp only [List.take, putL, Act.put, List.setIfInBounds_toArray, List.set_cons_zero, List.set_cons_succ]; unfold StepOK; go_simp; exact ⟨Below.refl _ _, isV_mk _ _⟩
          apply RunE.pure (by decide)
          · intro vs w hb hd; clear hd; simp only [List.take, putL, Act.put, List.setIfInBounds_toArray, List.set_cons_zero, List.set_cons_succ]; unfold StepOK; go_simp; exact ⟨Below.refl _ _, isV_mk _ _⟩
          apply RunE.pure (by decide)
          · intro vs w hb hd; have d1 : isV _ (vs 1) w := hd 1 (by decide) (by kernel_rfl); unfold isV at d1; have d2 : isV _ (vs 2) w := hd 2 (by decide) (by kernel_rfl); unfold isV at d2; clear hd; have hx1 := HCT.out w; simp only [List.take, putL, Act.put, List.setIfInBounds_toArray, List.set_cons_zero, List.set_cons_succ]; unfold StepOK; go_simp; exact ⟨Below.refl _ _, isV_mk _ _⟩
          refine RunE.such (by decide) (isP wz.heap.size 3 1 k (intsL (l0.take k))) (isP_st _ _ _ _ _ _ (by omega)) ?_ ?_
          · intro vs w hb hd; have d0 := hd 0 (by decide) (by kernel_rfl); simp only [TR, Nat.reduceAdd, Nat.reduceSub, List.getD_cons_zero, List.getD_cons_succ] at d0; have d3 : isV _ (vs 3) w := hd 3 (by decide) (by kernel_rfl); unfold isV at d3; clear hd; obtain ⟨b, e0, oz⟩ := isZ_elim d0; have oX := HS.out.below (R3.bel hb (Nat.le_refl _)); obtain ⟨A', d', w', hrun, o', hb', hc0⟩ := run_app0 (P := Try.prog) w wz.heap.size 22 22 3 (.int .i64 0) 1 8 Try.underlying22 infoInt rfl (by decide) ⟨b, 0, none⟩ oz _ k _ (intsL (l0.take k)) (HTk.out _ oX) (intsL_one _) (by unfold maxLen; omega) (by omega) hb.size; exact stepOK_app rfl (.tmp 74) (.tmp 77) 22 rfl (by simp [Act.eval, putL, Act.put, e0]) (by simp [Act.eval, putL, Act.put, d3]) hrun hb' ⟨A', d', rfl, o', hc0⟩
          apply RunE.pure (by decide)
          · intro vs w hb hd; clear hd; simp only [List.take, putL, Act.put, List.setIfInBounds_toArray, List.set_cons_zero, List.set_cons_succ]; unfold StepOK; go_simp; exact ⟨Below.refl _ _, isV_mk _ _⟩
          apply RunE.pure (by decide)
          · intro vs w hb hd; clear hd; simp only [List.take, putL, Act.put, List.setIfInBounds_toArray, List.set_cons_zero, List.set_cons_succ]; unfold StepOK; go_simp; exact ⟨Below.refl _ _, isV_mk _ _⟩
          apply RunE.pure (by decide)
          · intro vs w hb hd; have d6 : isV _ (vs 6) w := hd 6 (by decide) (by kernel_rfl); unfold isV at d6; clear hd; have hx1 := hwk; simp only [List.take, putL, Act.put, List.setIfInBounds_toArray, List.set_cons_zero, List.set_cons_succ]; unfold StepOK; go_simp; exact ⟨Below.refl _ _, isV_mk _ _⟩
          apply RunE.pure (by decide)
          · intro vs w hb hd; have d5 : isV _ (vs 5) w := hd 5 (by decide) (by kernel_rfl); unfold isV at d5; have d7 : isV _ (vs 7) w := hd 7 (by decide) (by kernel_rfl); unfold isV at d7; clear hd; have hx1 := HCF.out w; simp only [List.take, putL, Act.put, List.setIfInBounds_toArray, List.set_cons_zero, List.set_cons_succ]; unfold StepOK; go_simp; exact ⟨Below.refl _ _, isV_mk _ _⟩
          refine RunE.eff (by decide) (isJ wz.heap.size 3 1 NX (intsL LX)) (isJ_st _ _ _ _ _) ?_ ?_
          · intro vs w hb hd hj; have d4 := hd 4 (by decide) (by kernel_rfl); simp only [TR, Nat.reduceAdd, Nat.reduceSub, List.getD_cons_zero, List.getD_cons_succ] at d4; have d8 : isV _ (vs 8) w := hd 8 (by decide) (by kernel_rfl); unfold isV at d8; clear hd; have hj2 := hj; (try simp only [prevE, lastV, List.mem_cons, List.not_mem_nil, or_false, Nat.reduceEqDiff, Nat.reduceAdd, if_true, if_false, reduceIte, or_true, true_or, or_self] at hj2); clear hj; obtain ⟨A9, c9, e9, o9, hz9⟩ := isP_elim d4; have oX := HS.out.below (R3.bel hb (Nat.le_refl _)); obtain ⟨A', d', w', hrun, o', hr'⟩ := run_app3 (P := Try.prog) w (max k 1) wz.heap.size 22 22 3 (.int .i64 0) 1 8 Try.underlying22 infoInt rfl (by decide) A9 k c9 _ o9 (by by_cases h0 : k = 0; exact .inr (hz9 h0); exact .inl (by omega)) _ _ _ _ (HDk.out _ oX) (intsL_one _) (by unfold maxLen; omega) (by omega) hb.size; exact stepE_app rfl (.tmp 78) (.tmp 82) 22 rfl (by simp [Act.eval, putL, Act.put, e9]) (by simp [Act.eval, putL, Act.put, d8]) hrun hr' ⟨A', d', by rw [HNX.out], by rw [HLX.out, HNX.out]; exact o'⟩
          refine RunE.eff (by decide) (isJ wz.heap.size 3 1 NX (intsL LX)) (isJ_st _ _ _ _ _) ?_ ?_
          · intro vs w hb hd hj; have d0 := hd 0 (by decide) (by kernel_rfl); simp only [TR, Nat.reduceAdd, Nat.reduceSub, List.getD_cons_zero, List.getD_cons_succ] at d0; have d1 : isV _ (vs 1) w := hd 1 (by decide) (by kernel_rfl); unfold isV at d1; have d2 : isV _ (vs 2) w := hd 2 (by decide) (by kernel_rfl); unfold isV at d2; have d3 : isV _ (vs 3) w := hd 3 (by decide) (by kernel_rfl); unfold isV at d3; have d4 := hd 4 (by decide) (by kernel_rfl); simp only [TR, Nat.reduceAdd, Nat.reduceSub, List.getD_cons_zero, List.getD_cons_succ] at d4; have d5 : isV _ (vs 5) w := hd 5 (by decide) (by kernel_rfl); unfold isV at d5; have d6 : isV _ (vs 6) w := hd 6 (by decide) (by kernel_rfl); unfold isV at d6; have d7 : isV _ (vs 7) w := hd 7 (by decide) (by kernel_rfl); unfold isV at d7; have d8 : isV _ (vs 8) w := hd 8 (by decide) (by kernel_rfl); unfold isV at d8; clear hd; have hj2 := hj; (try simp only [prevE, lastV, List.mem_cons, List.not_mem_nil, or_false, Nat.reduceEqDiff, Nat.reduceAdd, if_true, if_false, reduceIte, or_true, true_or, or_self] at hj2); clear hj; obtain ⟨A13, c13, e13, o13⟩ := hj2; simp only [List.take, putL, Act.put, List.setIfInBounds_toArray, List.set_cons_zero, List.set_cons_succ]; unfold StepE; go_simp; exact ⟨R3.below (Below.refl _ _), A13, c13, rfl, o13⟩
          intro vs w1 hb hd hj
          try simp only [prevE, lastV, List.mem_cons, List.not_mem_nil, or_false, Nat.reduceEqDiff, Nat.reduceAdd, if_true, if_false, reduceIte, or_true, true_or, or_self] at hj
          have e0 := hd 0 (by decide); simp only [TR, Nat.reduceAdd, Nat.reduceSub, List.getD_cons_zero, List.getD_cons_succ] at e0
          have e1 : isV _ (vs 1) w1 := hd 1 (by decide)
          have e2 : isV _ (vs 2) w1 := hd 2 (by decide)
          have e3 : isV _ (vs 3) w1 := hd 3 (by decide)
          have e4 := hd 4 (by decide); simp only [TR, Nat.reduceAdd, Nat.reduceSub, List.getD_cons_zero, List.getD_cons_succ] at e4
          have e5 : isV _ (vs 5) w1 := hd 5 (by decide)
          have e6 : isV _ (vs 6) w1 := hd 6 (by decide)
          have e7 : isV _ (vs 7) w1 := hd 7 (by decide)
          have e8 : isV _ (vs 8) w1 := hd 8 (by decide)
          clear hd
          unfold isV at e1 e2 e3 e5 e6 e7 e8
          simp only [putL, Act.put, List.setIfInBounds_toArray, List.set_cons_zero, List.set_cons_succ, e1, e2, e3, e5, e6, e7, e8]
          clear e1 e2 e3 e5 e6 e7 e8
          --@end
          obtain ⟨A10, c10, e10, o10⟩ := hj
          simp only [Nat.reduceAdd, e10]
          have hbw := R3.bel hb (Nat.le_refl _)
          have h2 := H2.out.below hbw
          rw [HLX2.out] at h2
          have fA2 : FreeA lab2 A10 w1 := by
            intro a2 ha2
            rcases o10.2 with ⟨h9, _⟩ | ⟨g9, cap9, cur9, h9, h91, h92, _⟩
            · simp only [Value.slice.injEq] at h9
              rw [h9.1] at ha2; cases ha2
            · simp only [Value.slice.injEq] at h9
              rw [h9.1] at ha2; cases ha2
              exact ⟨H2.out.labN h91, (Array.getElem?_eq_some_iff.1 h92).1⟩
          have bC2 := bC.trans (hbw.mono bC.size)
          have aM2 : App W.heap.size 3 1 w1 A10 NX c10 (intsL LX) := .inl (Own.lower o10 bC.size)
          obtain ⟨n1, hn1⟩ : ∃ n1, n1 = NX := ⟨_, rfl⟩
          have hn30 : n1 ≤ 30 := by rw [hn1, HNX.out]; omega
          have hln : LX.length = n1 := by rw [hn1]; exact hlx
          rw [← hn1] at aM2 ⊢
          clear HS HCT HCF HTk HDk HLX HNX HLX2 H2 hb hbw aM1 fA1 bC o10 e10 hn1 hlx hle hin h0 hk hj hjk HAt HBf hmnl
          obtain ⟨A, rfl⟩ : ∃ A, A = A10 := ⟨_, rfl⟩
          obtain ⟨c, rfl⟩ : ∃ c, c = c10 := ⟨_, rfl⟩
          obtain ⟨w2, rfl⟩ : ∃ w2 : World, w2 = w1 := ⟨_, rfl⟩
          obtain ⟨l1, rfl⟩ : ∃ l1, l1 = LX := ⟨_, rfl⟩
          have hl1n := hln
          have bC := bC2
          have hbase := bC.size
          clear hln bC2
          go_wp2_with fail
          refine (has_any h2.is nQ nQ_len A n1 c l1 aM2.sl (by rw [one_getQ nQ_ok]) (by omega)).mono ?_; rintro e w3 ⟨rfl, b3⟩
          have h3' := h2.below b3
          have aM3 := aM2.below b3
          have fA3 := fA2.size b3.size
          have bD := bC.trans (b3.mono bC.size)
          clear h2 aM2 fA2 bC b3
          go_wp2_with fail
          refine (All_any h3'.is nQ nQ_len).mono ?_; rintro e w4 ⟨A4, c4, rfl, o4, b4⟩
          rw [one_getQ nQ_ok] at o4 ⊢
          simp only [hl1n] at o4 ⊢
          have h4' := h3'.below b4
          have aM4 := aM3.below b4
          have fA4 := fA3.size b4.size
          have bE := bD.trans (b4.mono bD.size)
          have HT4 := Lib.hid (show ∀ g, A4 = some ⟨g, 0, none⟩ → lab2 g = none from fun g hg => by
            rcases o4.2 with ⟨h9, _⟩ | ⟨g9, cap9, cur9, h9, h91, _⟩
            · simp only [Value.slice.injEq] at h9
              rw [h9.1] at hg; cases hg
            · simp only [Value.slice.injEq] at h9
              rw [h9.1] at hg; cases hg
              exact h3'.labN h91)
          have HT5 := Lib.hid (show ∀ g, A4 = some ⟨g, 0, none⟩ → ∀ a2, A = some a2 → a2.block ≠ g from fun g hg a2 ha2 => by
            have h1 := (fA3 a2 ha2).2
            rcases o4.2 with ⟨h9, _⟩ | ⟨g9, cap9, cur9, h9, h91, _⟩
            · simp only [Value.slice.injEq] at h9
              rw [h9.1] at hg; cases hg
            · simp only [Value.slice.injEq] at h9
              rw [h9.1] at hg; cases hg
              omega)
          have HT6 := Lib.hid (show ∀ g, A4 = some ⟨g, 0, none⟩ → W.heap.size ≤ g from fun g hg => by
            have h1 := bD.size
            rcases o4.2 with ⟨h9, _⟩ | ⟨g9, cap9, cur9, h9, h91, _⟩
            · simp only [Value.slice.injEq] at h9
              rw [h9.1] at hg; cases hg
            · simp only [Value.slice.injEq] at h9
              rw [h9.1] at hg; cases hg
              omega)
          have H4 := Lib.hid h4'
          clear h3' aM3 fA3 bD b4 h4'
          go_wp2_with fail
          go_loopw [92] (fun s92 wx => ∃ (j : Nat) (ls : List Int), j ≤ n1 ∧ ls.length = n1 ∧ s92 = .int .i64 (j : Int) ∧ Own w3.heap.size 3 1 wx A4 n1 c4 (intsL ls) ∧ App W.heap.size 3 1 wx A n1 c (intsL l1) ∧ FreeA lab2 A wx ∧ Hid (RIl wx W.heap.size p 100 (one nQ 100 100 l1) lab2) ∧ Below W.heap.size W wx) (fun iv _ => n1 - (intOf iv).toNat)
          case atStart => exact ⟨0, l1, by omega, hl1n, rfl, o4, aM4, fA4, H4, bE⟩
          case round =>
            clear o4 aM4 fA4 H4 bE
            obtain ⟨j, ls, hj, hls, rfl, o5, aM5, fA5, H5, bF⟩ := hrel
            rename World => wr
            by_cases hjn : j < n1
            · obtain ⟨x, hx⟩ := get_some ls j (by omega)
              obtain ⟨g, rfl, _, _⟩ := own_addr o5 (by omega)
              have hcell := own_cell o5 hx
              have hfz := World.ownsRow.frozenAt o5 j
              have st := World.ownsRow.stored o5 j (.int .i64 (wrap64 (x + 1)))
              have hin : (0 : Int) ≤ (j : Int) ∧ (j : Int) < (n1 : Int) := by omega
              have o6 : Own w3.heap.size 3 1 (wr.setCell ⟨g, j, none⟩ (.int .i64 (wrap64 (x + 1)))) (some ⟨g, 0, none⟩) n1 c4 (intsL (ls.set j (wrap64 (x + 1)))) := by
                have h9 := st.1
                unfold Own
                rw [show intsL (ls.set j (wrap64 (x + 1))) = (intsL ls).set j (.int .i64 (wrap64 (x + 1))) by simp [intsL, List.map_set]]
                exact h9
              have aM6 := aM5.kept st.2 (fun a2 ha2 e => HT5.out g rfl a2 ha2 (Option.some.inj e))
              have fA6 := fA5.size st.2.size
              have H6 := Lib.hid (H5.out.grown st.2 (HT4.out g rfl))
              have bG := bF.grown st.2 bF.size (fun q hq => by cases hq; exact HT6.out g rfl)
              clear hx o5 aM5 fA5 H5 bF st
              obtain ⟨y, hy⟩ : ∃ y, y = wrap64 (x + 1) := ⟨_, rfl⟩
              go_wp2_with fail
              go_roundw
              case rel => exact ⟨j + 1, _, by omega, by rw [List.length_set]; exact hls, by go_num, o6, aM6, fA6, H6, bG⟩
              case measure => simp [intOf]; omega
            · obtain rfl : j = n1 := by omega
              clear o5 HT4 HT5 HT6
              have hS5 := aM5.sl
              go_wp2_with fail
              go_loopw [15, 104] (fun s15 s104 wx => ∃ (i : Nat), i ≤ j ∧ s104 = .int .i64 (i : Int) ∧ s15 = .bool (decide (n ∈ l1.take i)) ∧ wr = wx) (fun _ iv _ => j - (intOf iv).toNat)
              case atStart => exact ⟨0, by omega, rfl, by simp, rfl⟩
              case round =>
                obtain ⟨i, hi, rfl, rfl, rfl⟩ := hrel
                by_cases hij : i < j
                · obtain ⟨x, hx⟩ := get_some l1 i (by omega)
                  obtain ⟨ad, rfl, hcell⟩ := slI_cell hS5 hx
                  have hin : (0 : Int) ≤ (i : Int) ∧ (i : Int) < (j : Int) := by omega
                  have HM := Lib.hid (mem_snoc (n := n) hx)
                  obtain ⟨th, hth⟩ : ∃ th, decide (n ∈ l1.take i) = th := ⟨_, rfl⟩
                  rw [hth]
                  have Hth := Lib.hid hth
                  clear hth hx
                  cases th with
                  | true =>
                    go_wp2_with fail
                    go_roundw
                    case rel => exact ⟨i + 1, by omega, by go_num, by rw [HM.out, Hth.out]; rfl, trivial⟩
                    case measure => simp [intOf]; omega
                  | false =>
                    by_cases hxn : x = n
                    · go_wp2_with fail
                      go_roundw
                      case rel => exact ⟨i + 1, by omega, by go_num, by rw [HM.out, Hth.out, hxn]; simp, trivial⟩
                      case measure => simp [intOf]; omega
                    · go_wp2_with fail
                      go_roundw
                      case rel => exact ⟨i + 1, by omega, by go_num, by rw [HM.out, Hth.out]; simp [hxn], trivial⟩
                      case measure => simp [intOf]; omega
                · obtain rfl : i = j := by omega
                  rw [List.take_of_length_le (by omega)]
                  obtain ⟨n1, rfl⟩ : ∃ n1, n1 = i := ⟨_, rfl⟩
                  clear hS5
                  by_cases hmem : n ∈ l1
                  · have hdc : decide (n ∈ l1) = true := by simpa using hmem
                    rw [hdc]
                    clear hdc hmem
                    obtain ⟨w8, rfl⟩ : ∃ w8 : World, w8 = wr := ⟨_, rfl⟩
                    have h8 := H5
                    have aM8 := aM5
                    have fA8 := fA5
                    have bH := bF
                    obtain ⟨lab8, rfl⟩ : ∃ lab8, lab8 = lab2 := ⟨_, rfl⟩
                    clear H5 aM5 fA5 bF
                    obtain ⟨kk, hkk⟩ : ∃ kk, kk = a % (n1 + 1) := ⟨_, rfl⟩
                    have hkn : kk ≤ n1 := by have := Nat.mod_lt a (show 0 < n1 + 1 by omega); omega
                    have hq2 : (a : Int) % ((n1 : Int) + 1) = (kk : Int) := by rw [hkk, Int.natCast_emod, Int.natCast_add]; rfl
                    have hq1 : (a : Int).tmod ((n1 : Int) + 1) = (kk : Int) := by rw [Int.tmod_eq_emod_of_nonneg (by omega), hq2]
                    have hq3 : ¬ ((n1 : Int) + 1 = 0) := by omega
                    clear hkk
                    go_wp2_with fail
                    go_loopw [18] (fun s18 wx => ∃ (i : Nat) (lab : Nat → Option Lab), i ≤ kk ∧ s18 = .int .i64 (i : Int) ∧ App W.heap.size 3 1 wx A n1 c (intsL l1) ∧ FreeA lab A wx ∧ Hid (RIl wx W.heap.size p 100 (one nQ 100 100 (l1.drop i ++ l1.take i)) lab) ∧ Below W.heap.size W wx) (fun iv _ => kk - (intOf iv).toNat)
                    case atStart => exact ⟨0, lab8, by omega, rfl, aM8, fA8, by rw [List.drop_zero, List.take_zero, List.append_nil]; exact h8, bH⟩
                    case round =>
                      clear aM8 fA8 h8 bH
                      obtain ⟨i, lab, hi, rfl, aM1, fA1, HR, bx⟩ := hrel
                      by_cases hik : i < kk
                      · obtain ⟨x, hx⟩ := get_some l1 i (by omega)
                        obtain ⟨e1, e2⟩ := rot_next hx
                        have ht : lookR (getQ (one nQ 100 100 (l1.drop i ++ l1.take i)) 100 nQ) = (x, true) := by rw [one_getQ nQ_ok, e1]; rfl
                        have htk : takeR (one nQ 100 100 (l1.drop i ++ l1.take i)) 100 nQ = one nQ 100 100 (l1.drop (i + 1) ++ l1.take i) := by rw [e1]; exact one_take nQ_ok _ _
                        have hp : putR (one nQ 100 100 (l1.drop (i + 1) ++ l1.take i)) 100 nQ x = (0, one nQ 100 100 (l1.drop (i + 1) ++ l1.take (i + 1))) := by
                          rw [one_put nQ_ok, if_neg (by have hln : (l1.drop (i + 1) ++ l1.take i).length ≤ 30 := (by rw [List.length_append, List.length_drop, List.length_take]; omega); omega), e2]
                        have HT := Lib.hid ht
                        have HTK := Lib.hid htk
                        have HP := Lib.hid hp
                        have hR := HR.out
                        clear hx e1 e2 ht htk hp HR
                        go_wp2_with fail
                        refine (Take_lab hR nQ nQ_len one_l).mono ?_; rintro e w2 ⟨rfl, ⟨lab2, h2, c2⟩, b2⟩
                        rw [HTK.out] at h2
                        rw [HT.out]
                        have aM2 := aM1.chg c2 fA1
                        have fA2 := fA1.chg c2
                        have bC := bx.trans b2
                        clear aM1 fA1 c2 b2 bx hR HTK HT
                        go_wp2_with fail
                        refine (Put_lab h2 nQ nQ_len x one_l).mono ?_; rintro e w3 ⟨rfl, ⟨lab3, h3', c3⟩, b3⟩
                        rw [HP.out] at h3' ⊢
                        have aM3 := aM2.chg c3 fA2
                        have fA3 := fA2.chg c3
                        have bD := bC.trans b3
                        clear aM2 fA2 c3 b3 bC h2 HP
                        go_wp2_with fail
                        go_roundw
                        case rel => exact ⟨i + 1, lab3, by omega, by go_num, aM3, fA3, Lib.hid h3', bD⟩
                        case measure => simp [intOf]; omega
                      · obtain rfl : i = kk := by omega
                        clear hik hi
                        obtain ⟨k, rfl⟩ : ∃ k, k = i := ⟨_, rfl⟩
                        go_upto_region 42 with fail
                        rename World => wz
                        have HS := Lib.hid aM1.sl
                        have hle := aM1.sl.le
                        have HCT := Lib.hid (fun w => cutT A n1 c k (k : Int) rfl (by omega) w)
                        obtain ⟨AX, hAX1, hAX2⟩ := cutF A n1 c k (k : Int) rfl (by omega)
                        have HTk := Lib.hid (fun (w' : World) (h : Sl w' 1 A n1 c (intsL l1)) => slI_take k (by omega) h)
                        obtain ⟨kk, hkk⟩ : ∃ kk, kk = n1 - k := ⟨_, rfl⟩
                        rw [← hkk] at hAX1 hAX2
                        have HCF := Lib.hid hAX1
                        have HDk := Lib.hid (fun (w' : World) (h : Sl w' 1 A n1 c (intsL l1)) => hAX2 w' l1 h)
                        have HLR := Lib.hid (show (getQ (one nQ 100 100 (l1.drop k ++ l1.take k)) 100 nQ).l = l1.drop k ++ l1.take k by rw [one_getQ nQ_ok])
                        have HNR := Lib.hid (show (l1.drop k ++ l1.take k).length = n1 by rw [List.length_append, List.length_drop, List.length_take]; omega)
                        obtain ⟨LR, hLR⟩ : ∃ LR, LR = l1.drop k ++ l1.take k := ⟨_, rfl⟩
                        obtain ⟨NR, hNR⟩ : ∃ NR, NR = n1 := ⟨_, rfl⟩
                        have HLI := Lib.hid (show intsL LR = intsL (l1.drop k) ++ intsL (l1.take k) by rw [hLR]; simp [intsL])
                        have HNR2 := Lib.hid (show NR = kk + k by omega)
                        rw [← hLR] at HLR HNR HR
                        rw [← hNR] at HNR
                        have HRI := HR
                        have hnr : NR ≤ 1000000 := by omega
                        have hk30 : k ≤ 30 := by omega
                        have hkk30 : kk ≤ 30 := by omega
                        clear aM1 fA1 hAX1 hAX2 hLR hNR hkk hq1 hq2 hq3
                        --@region 9 42 drops42.spec
                        refine wp_region_runE [10, 11] (fun _ _ => True) (by kernel_rfl) (by kernel_rfl) (by kernel_rfl) (R := R4 (max kk 1) wz.heap.size NR (intsL LR)) (fun _ _ h => R4.below h) (fun _ _ _ => R4.trans) (fun _ _ _ _ _ => trivial) trivial ?_
                        apply RunE.pure (by decide)
                        · intro vs w hb hd; clear hd; simp only [List.take, putL, Act.put, List.setIfInBounds_toArray, List.set_cons_zero, List.set_cons_succ]; unfold StepOK; go_simp; exact ⟨Below.refl _ _, isV_mk _ _⟩
                        refine RunE.such (by decide) (isF wz.heap.size 3 NR (intsL LR)) (isF_st _) ?_ ?_
                        · intro vs w hb hd; have d0 : isV _ (vs 0) w := hd 0 (by decide) (by kernel_rfl); unfold isV at d0; clear hd; have hR2 := HRI.out.below (R4.bel hb (Nat.le_refl _)); simp only [List.take, putL, Act.put, List.setIfInBounds_toArray, List.set_cons_zero, List.set_cons_succ]; unfold StepOK; go_simp; exact ⟨Below.refl _ _, isF_such hb.r.size (All_any hR2.is nQ nQ_len) HLR.out HNR.out⟩
                        refine RunE.such (by decide) (isZ wz.heap.size 3 1) (isZ_st4 _ _) ?_ ?_
                        · intro vs w hb hd; clear hd; have hB := hb.r.size; simp only [List.take, putL, Act.put, List.setIfInBounds_toArray, List.set_cons_zero, List.set_cons_succ]; unfold StepOK; go_simp; exact ⟨below_alloc1 _ _, _, rfl, World.ownsRow_lit _ #[] 0 hB (by unfold maxLen; omega) rfl⟩
                        apply RunE.pure (by decide)
                        · intro vs w hb hd; clear hd; simp only [List.take, putL, Act.put, List.setIfInBounds_toArray, List.set_cons_zero, List.set_cons_succ]; unfold StepOK; go_simp; exact ⟨Below.refl _ _, isV_mk _ _⟩
                        apply RunE.pure (by decide)
                        · intro vs w hb hd; clear hd; simp only [List.take, putL, Act.put, List.setIfInBounds_toArray, List.set_cons_zero, List.set_cons_succ]; unfold StepOK; go_simp; exact ⟨Below.refl _ _, isV_mk _ _⟩
                        apply RunE.pure (by decide)
                        · intro vs w hb hd; have d3 : isV _ (vs 3) w := hd 3 (by decide) (by kernel_rfl); unfold isV at d3; have d4 : isV _ (vs 4) w := hd 4 (by decide) (by kernel_rfl); unfold isV at d4; clear hd; have hx1 := HCF.out w; simp only [List.take, putL, Act.put, List.setIfInBounds_toArray, List.set_cons_zero, List.set_cons_succ]; unfold StepOK; go_simp; exact ⟨Below.refl _ _, isV_mk _ _⟩
                        refine RunE.such (by decide) (isP wz.heap.size 3 1 kk (intsL (l1.drop k))) (isP_st4 _ _ _ _ (by omega)) ?_ ?_
                        · intro vs w hb hd; have d1 := hd 1 (by decide) (by kernel_rfl); simp only [TR, Nat.reduceAdd, Nat.reduceSub, List.getD_cons_zero, List.getD_cons_succ] at d1; have d2 := hd 2 (by decide) (by kernel_rfl); simp only [TR, Nat.reduceAdd, Nat.reduceSub, List.getD_cons_zero, List.getD_cons_succ] at d2; have d5 : isV _ (vs 5) w := hd 5 (by decide) (by kernel_rfl); unfold isV at d5; clear hd; obtain ⟨b, e0, oz⟩ := isZ_elim d2; have oX := HS.out.below (R4.bel hb (Nat.le_refl _)); obtain ⟨A', d', w', hrun, o', hb', hc0⟩ := run_app0 (P := Try.prog) w wz.heap.size 22 22 3 (.int .i64 0) 1 8 Try.underlying22 infoInt rfl (by decide) ⟨b, 0, none⟩ oz _ kk _ (intsL (l1.drop k)) (HDk.out _ oX) (intsL_one _) (by unfold maxLen; omega) (by omega) hb.r.size; exact stepOK_app rfl (.tmp 165) (.tmp 168) 22 rfl (by simp [Act.eval, putL, Act.put, e0]) (by simp [Act.eval, putL, Act.put, d5]) hrun hb' ⟨A', d', rfl, o', hc0⟩
                        apply RunE.pure (by decide)
                        · intro vs w hb hd; clear hd; simp only [List.take, putL, Act.put, List.setIfInBounds_toArray, List.set_cons_zero, List.set_cons_succ]; unfold StepOK; go_simp; exact ⟨Below.refl _ _, isV_mk _ _⟩
                        apply RunE.pure (by decide)
                        · intro vs w hb hd; clear hd; simp only [List.take, putL, Act.put, List.setIfInBounds_toArray, List.set_cons_zero, List.set_cons_succ]; unfold StepOK; go_simp; exact ⟨Below.refl _ _, isV_mk _ _⟩
                        apply RunE.pure (by decide)
                        · intro vs w hb hd; have d7 : isV _ (vs 7) w := hd 7 (by decide) (by kernel_rfl); unfold isV at d7; have d8 : isV _ (vs 8) w := hd 8 (by decide) (by kernel_rfl); unfold isV at d8; clear hd; have hx1 := HCT.out w; simp only [List.take, putL, Act.put, List.setIfInBounds_toArray, List.set_cons_zero, List.set_cons_succ]; unfold StepOK; go_simp; exact ⟨Below.refl _ _, isV_mk _ _⟩
                        refine RunE.eff (by decide) (isJ wz.heap.size 3 1 NR (intsL LR)) (isJ_st _ _ _ _ _) ?_ ?_
                        · intro vs w hb hd hj; have d6 := hd 6 (by decide) (by kernel_rfl); simp only [TR, Nat.reduceAdd, Nat.reduceSub, List.getD_cons_zero, List.getD_cons_succ] at d6; have d9 : isV _ (vs 9) w := hd 9 (by decide) (by kernel_rfl); unfold isV at d9; clear hd; have hj2 := hj; (try simp only [prevE, lastV, List.mem_cons, List.not_mem_nil, or_false, Nat.reduceEqDiff, Nat.reduceAdd, if_true, if_false, reduceIte, or_true, true_or, or_self] at hj2); clear hj; obtain ⟨A9, c9, e9, o9, hz9⟩ := isP_elim d6; have oX := HS.out.below (R4.bel hb (Nat.le_refl _)); obtain ⟨A', d', w', hrun, o', hr'⟩ := run_app4 (P := Try.prog) w (max kk 1) wz.heap.size 22 22 3 (.int .i64 0) 8 Try.underlying22 infoInt rfl A9 kk c9 _ o9 (by by_cases h0 : kk = 0; exact .inr (hz9 h0); exact .inl (by omega)) _ _ _ _ (HTk.out _ oX) (intsL_one _) (by unfold maxLen; omega) (by omega) hb.r.size; exact stepE_app rfl (.tmp 169) (.tmp 172) 22 rfl (by simp [Act.eval, putL, Act.put, e9]) (by simp [Act.eval, putL, Act.put, d9]) hrun (by rw [HLI.out, HNR2.out]; exact hr') ⟨A', d', by rw [HNR2.out], by rw [HLI.out, HNR2.out]; exact o'⟩
                        refine RunE.effV (c := (.bool true)) (by decide) ((fun v _ => v = .bool true)) (fun _ _ _ _ h => h) (fun v w h => h) ?_ ?_
                        · intro vs w hb hd hj; have d1 := hd 1 (by decide) (by kernel_rfl); simp only [TR, Nat.reduceAdd, Nat.reduceSub, List.getD_cons_zero, List.getD_cons_succ] at d1; clear hd; have hj2 := hj; (try simp only [prevE, lastV, List.mem_cons, List.not_mem_nil, or_false, Nat.reduceEqDiff, Nat.reduceAdd, if_true, if_false, reduceIte, or_true, true_or, or_self] at hj2); clear hj; obtain ⟨A1, c1, e1, o1⟩ := isF_elim d1; obtain ⟨A10, c10, e10, o10⟩ := hj2; simp only [List.take, putL, Act.put, List.setIfInBounds_toArray, List.set_cons_zero, List.set_cons_succ]; unfold StepE; go_simp; exact ⟨R4.below (Below.refl _ _), (sameInts_any A1 A10 NR c1 c10 LR w o1.sl o10.sl (by omega)).mono (fun e w' ⟨he, hw⟩ => by first | exact ⟨_, he, R4.below hw, rfl⟩ | exact ⟨R4.below hw, he⟩ | exact ⟨he, R4.below hw⟩ | (subst he; exact ⟨_, rfl, R4.below hw, rfl⟩))⟩
                        apply RunE.pure (by decide)
                        · intro vs w hb hd; have d11 : isV _ (vs 11) w := hd 11 (by decide) (by kernel_rfl); unfold isV at d11; clear hd; simp only [List.take, putL, Act.put, List.setIfInBounds_toArray, List.set_cons_zero, List.set_cons_succ]; unfold StepOK; go_simp; exact ⟨Below.refl _ _, isV_mk _ _⟩
                        refine RunE.such (by decide) (isV (.bool true)) (isV_stableR _) ?_ ?_
                        · intro vs w hb hd; have d12 : isV _ (vs 12) w := hd 12 (by decide) (by kernel_rfl); unfold isV at d12; clear hd; simp only [List.take, putL, Act.put, List.setIfInBounds_toArray, List.set_cons_zero, List.set_cons_succ]; unfold StepOK; go_simp; exact ⟨Below.refl _ _, such_of_bool (awake8_any _)⟩
                        apply RunE.pure (by decide)
                        · intro vs w hb hd; have d12 : isV _ (vs 12) w := hd 12 (by decide) (by kernel_rfl); unfold isV at d12; have d13 := hd 13 (by decide) (by kernel_rfl); simp only [TR, Nat.reduceAdd, Nat.reduceSub, List.getD_cons_zero, List.getD_cons_succ] at d13; clear hd; unfold isV at d13; simp only [List.take, putL, Act.put, List.setIfInBounds_toArray, List.set_cons_zero, List.set_cons_succ]; unfold StepOK; go_simp; exact ⟨Below.refl _ _, isV_mk _ _⟩
                        apply RunE.pure (by decide)
                        · intro vs w hb hd; have d0 : isV _ (vs 0) w := hd 0 (by decide) (by kernel_rfl); unfold isV at d0; have d1 := hd 1 (by decide) (by kernel_rfl); simp only [TR, Nat.reduceAdd, Nat.reduceSub, List.getD_cons_zero, List.getD_cons_succ] at d1; have d2 := hd 2 (by decide) (by kernel_rfl); simp only [TR, Nat.reduceAdd, Nat.reduceSub, List.getD_cons_zero, List.getD_cons_succ] at d2; have d3 : isV _ (vs 3) w := hd 3 (by decide) (by kernel_rfl); unfold isV at d3; have d4 : isV _ (vs 4) w := hd 4 (by decide) (by kernel_rfl); unfold isV at d4; have d5 : isV _ (vs 5) w := hd 5 (by decide) (by kernel_rfl); unfold isV at d5; have d6 := hd 6 (by decide) (by kernel_rfl); simp only [TR, Nat.reduceAdd, Nat.reduceSub, List.getD_cons_zero, List.getD_cons_succ] at d6; have d7 : isV _ (vs 7) w := hd 7 (by decide) (by kernel_rfl); unfold isV at d7; have d8 : isV _ (vs 8) w := hd 8 (by decide) (by kernel_rfl); unfold isV at d8; have d9 : isV _ (vs 9) w := hd 9 (by decide) (by kernel_rfl); unfold isV at d9; have d11 : isV _ (vs 11) w := hd 11 (by decide) (by kernel_rfl); unfold isV at d11; have d12 : isV _ (vs 12) w := hd 12 (by decide) (by kernel_rfl); unfold isV at d12; have d13 := hd 13 (by decide) (by kernel_rfl); simp only [TR, Nat.reduceAdd, Nat.reduceSub, List.getD_cons_zero, List.getD_cons_succ] at d13; have d14 : isV _ (vs 14) w := hd 14 (by decide) (by kernel_rfl); unfold isV at d14; clear hd; simp only [List.take, putL, Act.put, List.setIfInBounds_toArray, List.set_cons_zero, List.set_cons_succ]; unfold StepOK; go_simp; exact ⟨Below.refl _ _, isV_mk _ _⟩
                        intro vs w1 hb hd hj
                        try simp only [prevE, lastV, List.mem_cons, List.not_mem_nil, or_false, Nat.reduceEqDiff, Nat.reduceAdd, if_true, if_false, reduceIte, or_true, true_or, or_self] at hj
                        have e0 : isV _ (vs 0) w1 := hd 0 (by decide)
                        have e1 := hd 1 (by decide); simp only [TR, Nat.reduceAdd, Nat.reduceSub, List.getD_cons_zero, List.getD_cons_succ] at e1
                        have e2 := hd 2 (by decide); simp only [TR, Nat.reduceAdd, Nat.reduceSub, List.getD_cons_zero, List.getD_cons_succ] at e2
                        have e3 : isV _ (vs 3) w1 := hd 3 (by decide)
                        have e4 : isV _ (vs 4) w1 := hd 4 (by decide)
                        have e5 : isV _ (vs 5) w1 := hd 5 (by decide)
                        have e6 := hd 6 (by decide); simp only [TR, Nat.reduceAdd, Nat.reduceSub, List.getD_cons_zero, List.getD_cons_succ] at e6
                        have e7 : isV _ (vs 7) w1 := hd 7 (by decide)
                        have e8 : isV _ (vs 8) w1 := hd 8 (by decide)
                        have e9 : isV _ (vs 9) w1 := hd 9 (by decide)
                        have e11 : isV _ (vs 11) w1 := hd 11 (by decide)
                        have e12 : isV _ (vs 12) w1 := hd 12 (by decide)
                        have e13 := hd 13 (by decide); simp only [TR, Nat.reduceAdd, Nat.reduceSub, List.getD_cons_zero, List.getD_cons_succ] at e13
                        have e14 : isV _ (vs 14) w1 := hd 14 (by decide)
                        have e15 : isV _ (vs 15) w1 := hd 15 (by decide)
                        clear hd
                        unfold isV at e0 e3 e4 e5 e7 e8 e9 e11 e12 e14 e15
                        simp only [putL, Act.put, List.setIfInBounds_toArray, List.set_cons_zero, List.set_cons_succ, e0, e3, e4, e5, e7, e8, e9, e11, e12, e14, e15]
                        clear e0 e3 e4 e5 e7 e8 e9 e11 e12 e14 e15
                        --@end
                        go_wp2_with fail
                        go_ret
                        exact ⟨rfl, bx.trans ((R4.bel hb (Nat.le_refl _)).mono bx.size)⟩
                  · have hdc : decide (n ∈ l1) = false := by simpa using hmem
                    rw [hdc]
                    have hp6 : putR (one nQ 100 100 l1) 100 nQ n = (0, one nQ 100 100 (l1 ++ [n])) := by rw [one_put nQ_ok, if_neg (by omega)]
                    have hd7 : dropR (one nQ 100 100 (l1 ++ [n])) 100 nQ n = (true, one nQ 100 100 l1) := by rw [one_drop nQ_ok, posI_last hmem]; simp only [erase_last]
                    have hd8 : dropR (one nQ 100 100 l1) 100 nQ n = (false, one nQ 100 100 l1) := by rw [one_drop nQ_ok, posI_new hmem]
                    have HP6 := Lib.hid hp6
                    have HD7 := Lib.hid hd7
                    have HD8 := Lib.hid hd8
                    have hR5 := H5.out
                    clear hdc hmem hp6 hd7 hd8 H5
                    go_wp2_with fail
                    refine (Put_lab hR5 nQ nQ_len n one_l).mono ?_; rintro e w6 ⟨rfl, ⟨lab6, h6, c6⟩, b6⟩
                    rw [HP6.out] at h6 ⊢
                    have aM6 := aM5.chg c6 fA5
                    have fA6 := fA5.chg c6
                    have bG := bF.trans b6
                    clear aM5 fA5 bF c6 b6 hR5 HP6
                    go_wp2_with fail
                    refine (Drop_lab h6 nQ nQ_len n one_l).mono ?_; rintro e w7 ⟨rfl, ⟨lab7, h7, c7⟩, b7⟩
                    rw [HD7.out] at h7 ⊢
                    have aM7 := aM6.chg c7 fA6
                    have fA7 := fA6.chg c7
                    have bG7 := bG.trans b7
                    clear aM6 fA6 bG c7 b7 h6 HD7
                    go_wp2_with fail
                    refine (Drop_lab h7 nQ nQ_len n one_l).mono ?_; rintro e w8 ⟨rfl, ⟨lab8, h8', c8⟩, b8⟩
                    rw [HD8.out] at h8' ⊢
                    have aM8 := aM7.chg c8 fA7
                    have fA8 := fA7.chg c8
                    have bH := bG7.trans b8
                    have h8 := Lib.hid h8'
                    clear aM7 fA7 bG7 c8 b8 h7 HD8 h8'
                    obtain ⟨kk, hkk⟩ : ∃ kk, kk = a % (n1 + 1) := ⟨_, rfl⟩
                    have hkn : kk ≤ n1 := by have := Nat.mod_lt a (show 0 < n1 + 1 by omega); omega
                    have hq2 : (a : Int) % ((n1 : Int) + 1) = (kk : Int) := by rw [hkk, Int.natCast_emod, Int.natCast_add]; rfl
                    have hq1 : (a : Int).tmod ((n1 : Int) + 1) = (kk : Int) := by rw [Int.tmod_eq_emod_of_nonneg (by omega), hq2]
                    have hq3 : ¬ ((n1 : Int) + 1 = 0) := by omega
                    clear hkk
                    go_wp2_with fail
                    go_loopw [18] (fun s18 wx => ∃ (i : Nat) (lab : Nat → Option Lab), i ≤ kk ∧ s18 = .int .i64 (i : Int) ∧ App W.heap.size 3 1 wx A n1 c (intsL l1) ∧ FreeA lab A wx ∧ Hid (RIl wx W.heap.size p 100 (one nQ 100 100 (l1.drop i ++ l1.take i)) lab) ∧ Below W.heap.size W wx) (fun iv _ => kk - (intOf iv).toNat)
                    case atStart => exact ⟨0, lab8, by omega, rfl, aM8, fA8, by rw [List.drop_zero, List.take_zero, List.append_nil]; exact h8, bH⟩
                    case round =>
                      clear aM8 fA8 h8 bH
                      obtain ⟨i, lab, hi, rfl, aM1, fA1, HR, bx⟩ := hrel
                      by_cases hik : i < kk
                      · obtain ⟨x, hx⟩ := get_some l1 i (by omega)
                        obtain ⟨e1, e2⟩ := rot_next hx
                        have ht : lookR (getQ (one nQ 100 100 (l1.drop i ++ l1.take i)) 100 nQ) = (x, true) := by rw [one_getQ nQ_ok, e1]; rfl
                        have htk : takeR (one nQ 100 100 (l1.drop i ++ l1.take i)) 100 nQ = one nQ 100 100 (l1.drop (i + 1) ++ l1.take i) := by rw [e1]; exact one_take nQ_ok _ _
                        have hp : putR (one nQ 100 100 (l1.drop (i + 1) ++ l1.take i)) 100 nQ x = (0, one nQ 100 100 (l1.drop (i + 1) ++ l1.take (i + 1))) := by
                          rw [one_put nQ_ok, if_neg (by have hln : (l1.drop (i + 1) ++ l1.take i).length ≤ 30 := (by rw [List.length_append, List.length_drop, List.length_take]; omega); omega), e2]
                        have HT := Lib.hid ht
                        have HTK := Lib.hid htk
                        have HP := Lib.hid hp
                        have hR := HR.out
                        clear hx e1 e2 ht htk hp HR
                        go_wp2_with fail
                        refine (Take_lab hR nQ nQ_len one_l).mono ?_; rintro e w2 ⟨rfl, ⟨lab2, h2, c2⟩, b2⟩
                        rw [HTK.out] at h2
                        rw [HT.out]
                        have aM2 := aM1.chg c2 fA1
                        have fA2 := fA1.chg c2
                        have bC := bx.trans b2
                        clear aM1 fA1 c2 b2 bx hR HTK HT
                        go_wp2_with fail
                        refine (Put_lab h2 nQ nQ_len x one_l).mono ?_; rintro e w3 ⟨rfl, ⟨lab3, h3', c3⟩, b3⟩
                        rw [HP.out] at h3' ⊢
                        have aM3 := aM2.chg c3 fA2
                        have fA3 := fA2.chg c3
                        have bD := bC.trans b3
                        clear aM2 fA2 c3 b3 bC h2 HP
                        go_wp2_with fail
                        go_roundw
                        case rel => exact ⟨i + 1, lab3, by omega, by go_num, aM3, fA3, Lib.hid h3', bD⟩
                        case measure => simp [intOf]; omega
                      · obtain rfl : i = kk := by omega
                        clear hik hi
                        obtain ⟨k, rfl⟩ : ∃ k, k = i := ⟨_, rfl⟩
                        go_upto_region 42 with fail
                        rename World => wz
                        have HS := Lib.hid aM1.sl
                        have hle := aM1.sl.le
                        have HCT := Lib.hid (fun w => cutT A n1 c k (k : Int) rfl (by omega) w)
                        obtain ⟨AX, hAX1, hAX2⟩ := cutF A n1 c k (k : Int) rfl (by omega)
                        have HTk := Lib.hid (fun (w' : World) (h : Sl w' 1 A n1 c (intsL l1)) => slI_take k (by omega) h)
                        obtain ⟨kk, hkk⟩ : ∃ kk, kk = n1 - k := ⟨_, rfl⟩
                        rw [← hkk] at hAX1 hAX2
                        have HCF := Lib.hid hAX1
                        have HDk := Lib.hid (fun (w' : World) (h : Sl w' 1 A n1 c (intsL l1)) => hAX2 w' l1 h)
                        have HLR := Lib.hid (show (getQ (one nQ 100 100 (l1.drop k ++ l1.take k)) 100 nQ).l = l1.drop k ++ l1.take k by rw [one_getQ nQ_ok])
                        have HNR := Lib.hid (show (l1.drop k ++ l1.take k).length = n1 by rw [List.length_append, List.length_drop, List.length_take]; omega)
                        obtain ⟨LR, hLR⟩ : ∃ LR, LR = l1.drop k ++ l1.take k := ⟨_, rfl⟩
                        obtain ⟨NR, hNR⟩ : ∃ NR, NR = n1 := ⟨_, rfl⟩
                        have HLI := Lib.hid (show intsL LR = intsL (l1.drop k) ++ intsL (l1.take k) by rw [hLR]; simp [intsL])
                        have HNR2 := Lib.hid (show NR = kk + k by omega)
                        rw [← hLR] at HLR HNR HR
                        rw [← hNR] at HNR
                        have HRI := HR
                        have hnr : NR ≤ 1000000 := by omega
                        have hk30 : k ≤ 30 := by omega
                        have hkk30 : kk ≤ 30 := by omega
                        clear aM1 fA1 hAX1 hAX2 hLR hNR hkk hq1 hq2 hq3
                        --@region 9 42 drops42.spec
                        refine wp_region_runE [10, 11] (fun _ _ => True) (by kernel_rfl) (by kernel_rfl) (by kernel_rfl) (R := R4 (max kk 1) wz.heap.size NR (intsL LR)) (fun _ _ h => R4.below h) (fun _ _ _ => R4.trans) (fun _ _ _ _ _ => trivial) trivial ?_
                        apply RunE.pure (by decide)
                        · intro vs w hb hd; clear hd; simp only [List.take, putL, Act.put, List.setIfInBounds_toArray, List.set_cons_zero, List.set_cons_succ]; unfold StepOK; go_simp; exact ⟨Below.refl _ _, isV_mk _ _⟩
                        refine RunE.such (by decide) (isF wz.heap.size 3 NR (intsL LR)) (isF_st _) ?_ ?_
                        · intro vs w hb hd; have d0 : isV _ (vs 0) w := hd 0 (by decide) (by kernel_rfl); unfold isV at d0; clear hd; have hR2 := HRI.out.below (R4.bel hb (Nat.le_refl _)); simp only [List.take, putL, Act.put, List.setIfInBounds_toArray, List.set_cons_zero, List.set_cons_succ]; unfold StepOK; go_simp; exact ⟨Below.refl _ _, isF_such hb.r.size (All_any hR2.is nQ nQ_len) HLR.out HNR.out⟩
                        refine RunE.such (by decide) (isZ wz.heap.size 3 1) (isZ_st4 _ _) ?_ ?_
                        · intro vs w hb hd; clear hd; have hB := hb.r.size; simp only [List.take, putL, Act.put, List.setIfInBounds_toArray, List.set_cons_zero, List.set_cons_succ]; unfold StepOK; go_simp; exact ⟨below_alloc1 _ _, _, rfl, World.ownsRow_lit _ #[] 0 hB (by unfold maxLen; omega) rfl⟩
                        apply RunE.pure (by decide)
                        · intro vs w hb hd; clear hd; simp only [List.take, putL, Act.put, List.setIfInBounds_toArray, List.set_cons_zero, List.set_cons_succ]; unfold StepOK; go_simp; exact ⟨Below.refl _ _, isV_mk _ _⟩
                        apply RunE.pure (by decide)
                        · intro vs w hb hd; clear hd; simp only [List.take, putL, Act.put, List.setIfInBounds_toArray, List.set_cons_zero, List.set_cons_succ]; unfold StepOK; go_simp; exact ⟨Below.refl _ _, isV_mk _ _⟩
                        apply RunE.pure (by decide)
                        · intro vs w hb hd; have d3 : isV _ (vs 3) w := hd 3 (by decide) (by kernel_rfl); unfold isV at d3; have d4 : isV _ (vs 4) w := hd 4 (by decide) (by kernel_rfl); unfold isV at d4; clear hd; have hx1 := HCF.out w; simp only [List.take, putL, Act.put, List.setIfInBounds_toArray, List.set_cons_zero, List.set_cons_succ]; unfold StepOK; go_simp; exact ⟨Below.refl _ _, isV_mk _ _⟩
                        refine RunE.such (by decide) (isP wz.heap.size 3 1 kk (intsL (l1.drop k))) (isP_st4 _ _ _ _ (by omega)) ?_ ?_
                        · intro vs w hb hd; have d1 := hd 1 (by decide) (by kernel_rfl); simp only [TR, Nat.reduceAdd, Nat.reduceSub, List.getD_cons_zero, List.getD_cons_succ] at d1; have d2 := hd 2 (by decide) (by kernel_rfl); simp only [TR, Nat.reduceAdd, Nat.reduceSub, List.getD_cons_zero, List.getD_cons_succ] at d2; have d5 : isV _ (vs 5) w := hd 5 (by decide) (by kernel_rfl); unfold isV at d5; clear hd; obtain ⟨b, e0, oz⟩ := isZ_elim d2; have oX := HS.out.below (R4.bel hb (Nat.le_refl _)); obtain ⟨A', d', w', hrun, o', hb', hc0⟩ := run_app0 (P := Try.prog) w wz.heap.size 22 22 3 (.int .i64 0) 1 8 Try.underlying22 infoInt rfl (by decide) ⟨b, 0, none⟩ oz _ kk _ (intsL (l1.drop k)) (HDk.out _ oX) (intsL_one _) (by unfold maxLen; omega) (by omega) hb.r.size; exact stepOK_app rfl (.tmp 165) (.tmp 168) 22 rfl (by simp [Act.eval, putL, Act.put, e0]) (by simp [Act.eval, putL, Act.put, d5]) hrun hb' ⟨A', d', rfl, o', hc0⟩
                        apply RunE.pure (by decide)
                        · intro vs w hb hd; clear hd; simp only [List.take, putL, Act.put, List.setIfInBounds_toArray, List.set_cons_zero, List.set_cons_succ]; unfold StepOK; go_simp; exact ⟨Below.refl _ _, isV_mk _ _⟩
                        apply RunE.pure (by decide)
                        · intro vs w hb hd; clear hd; simp only [List.take, putL, Act.put, List.setIfInBounds_toArray, List.set_cons_zero, List.set_cons_succ]; unfold StepOK; go_simp; exact ⟨Below.refl _ _, isV_mk _ _⟩
                        apply RunE.pure (by decide)
                        · intro vs w hb hd; have d7 : isV _ (vs 7) w := hd 7 (by decide) (by kernel_rfl); unfold isV at d7; have d8 : isV _ (vs 8) w := hd 8 (by decide) (by kernel_rfl); unfold isV at d8; clear hd; have hx1 := HCT.out w; simp only [List.take, putL, Act.put, List.setIfInBounds_toArray, List.set_cons_zero, List.set_cons_succ]; unfold StepOK; go_simp; exact ⟨Below.refl _ _, isV_mk _ _⟩
                        refine RunE.eff (by decide) (isJ wz.heap.size 3 1 NR (intsL LR)) (isJ_st _ _ _ _ _) ?_ ?_
                        · intro vs w hb hd hj; have d6 := hd 6 (by decide) (by kernel_rfl); simp only [TR, Nat.reduceAdd, Nat.reduceSub, List.getD_cons_zero, List.getD_cons_succ] at d6; have d9 : isV _ (vs 9) w := hd 9 (by decide) (by kernel_rfl); unfold isV at d9; clear hd; have hj2 := hj; (try simp only [prevE, lastV, List.mem_cons, List.not_mem_nil, or_false, Nat.reduceEqDiff, Nat.reduceAdd, if_true, if_false, reduceIte, or_true, true_or, or_self] at hj2); clear hj; obtain ⟨A9, c9, e9, o9, hz9⟩ := isP_elim d6; have oX := HS.out.below (R4.bel hb (Nat.le_refl _)); obtain ⟨A', d', w', hrun, o', hr'⟩ := run_app4 (P := Try.prog) w (max kk 1) wz.heap.size 22 22 3 (.int .i64 0) 8 Try.underlying22 infoInt rfl A9 kk c9 _ o9 (by by_cases h0 : kk = 0; exact .inr (hz9 h0); exact .inl (by omega)) _ _ _ _ (HTk.out _ oX) (intsL_one _) (by unfold maxLen; omega) (by omega) hb.r.size; exact stepE_app rfl (.tmp 169) (.tmp 172) 22 rfl (by simp [Act.eval, putL, Act.put, e9]) (by simp [Act.eval, putL, Act.put, d9]) hrun (by rw [HLI.out, HNR2.out]; exact hr') ⟨A', d', by rw [HNR2.out], by rw [HLI.out, HNR2.out]; exact o'⟩
                        refine RunE.effV (c := (.bool true)) (by decide) ((fun v _ => v = .bool true)) (fun _ _ _ _ h => h) (fun v w h => h) ?_ ?_
                        · intro vs w hb hd hj; have d1 := hd 1 (by decide) (by kernel_rfl); simp only [TR, Nat.reduceAdd, Nat.reduceSub, List.getD_cons_zero, List.getD_cons_succ] at d1; clear hd; have hj2 := hj; (try simp only [prevE, lastV, List.mem_cons, List.not_mem_nil, or_false, Nat.reduceEqDiff, Nat.reduceAdd, if_true, if_false, reduceIte, or_true, true_or, or_self] at hj2); clear hj; obtain ⟨A1, c1, e1, o1⟩ := isF_elim d1; obtain ⟨A10, c10, e10, o10⟩ := hj2; simp only [List.take, putL, Act.put, List.setIfInBounds_toArray, List.set_cons_zero, List.set_cons_succ]; unfold StepE; go_simp; exact ⟨R4.below (Below.refl _ _), (sameInts_any A1 A10 NR c1 c10 LR w o1.sl o10.sl (by omega)).mono (fun e w' ⟨he, hw⟩ => by first | exact ⟨_, he, R4.below hw, rfl⟩ | exact ⟨R4.below hw, he⟩ | exact ⟨he, R4.below hw⟩ | (subst he; exact ⟨_, rfl, R4.below hw, rfl⟩))⟩
                        apply RunE.pure (by decide)
                        · intro vs w hb hd; have d11 : isV _ (vs 11) w := hd 11 (by decide) (by kernel_rfl); unfold isV at d11; clear hd; simp only [List.take, putL, Act.put, List.setIfInBounds_toArray, List.set_cons_zero, List.set_cons_succ]; unfold StepOK; go_simp; exact ⟨Below.refl _ _, isV_mk _ _⟩
                        refine RunE.such (by decide) (isV (.bool true)) (isV_stableR _) ?_ ?_
                        · intro vs w hb hd; have d12 : isV _ (vs 12) w := hd 12 (by decide) (by kernel_rfl); unfold isV at d12; clear hd; simp only [List.take, putL, Act.put, List.setIfInBounds_toArray, List.set_cons_zero, List.set_cons_succ]; unfold StepOK; go_simp; exact ⟨Below.refl _ _, such_of_bool (awake8_any _)⟩
                        apply RunE.pure (by decide)
                        · intro vs w hb hd; have d12 : isV _ (vs 12) w := hd 12 (by decide) (by kernel_rfl); unfold isV at d12; have d13 := hd 13 (by decide) (by kernel_rfl); simp only [TR, Nat.reduceAdd, Nat.reduceSub, List.getD_cons_zero, List.getD_cons_succ] at d13; clear hd; unfold isV at d13; simp only [List.take, putL, Act.put, List.setIfInBounds_toArray, List.set_cons_zero, List.set_cons_succ]; unfold StepOK; go_simp; exact ⟨Below.refl _ _, isV_mk _ _⟩
                        apply RunE.pure (by decide)
                        · intro vs w hb hd; have d0 : isV _ (vs 0) w := hd 0 (by decide) (by kernel_rfl); unfold isV at d0; have d1 := hd 1 (by decide) (by kernel_rfl); simp only [TR, Nat.reduceAdd, Nat.reduceSub, List.getD_cons_zero, List.getD_cons_succ] at d1; have d2 := hd 2 (by decide) (by kernel_rfl); simp only [TR, Nat.reduceAdd, Nat.reduceSub, List.getD_cons_zero, List.getD_cons_succ] at d2; have d3 : isV _ (vs 3) w := hd 3 (by decide) (by kernel_rfl); unfold isV at d3; have d4 : isV _ (vs 4) w := hd 4 (by decide) (by kernel_rfl); unfold isV at d4; have d5 : isV _ (vs 5) w := hd 5 (by decide) (by kernel_rfl); unfold isV at d5; have d6 := hd 6 (by decide) (by kernel_rfl); simp only [TR, Nat.reduceAdd, Nat.reduceSub, List.getD_cons_zero, List.getD_cons_succ] at d6; have d7 : isV _ (vs 7) w := hd 7 (by decide) (by kernel_rfl); unfold isV at d7; have d8 : isV _ (vs 8) w := hd 8 (by decide) (by kernel_rfl); unfold isV at d8; have d9 : isV _ (vs 9) w := hd 9 (by decide) (by kernel_rfl); unfold isV at d9; have d11 : isV _ (vs 11) w := hd 11 (by decide) (by kernel_rfl); unfold isV at d11; have d12 : isV _ (vs 12) w := hd 12 (by decide) (by kernel_rfl); unfold isV at d12; have d13 := hd 13 (by decide) (by kernel_rfl); simp only [TR, Nat.reduceAdd, Nat.reduceSub, List.getD_cons_zero, List.getD_cons_succ] at d13; have d14 : isV _ (vs 14) w := hd 14 (by decide) (by kernel_rfl); unfold isV at d14; clear hd; simp only [List.take, putL, Act.put, List.setIfInBounds_toArray, List.set_cons_zero, List.set_cons_succ]; unfold StepOK; go_simp; exact ⟨Below.refl _ _, isV_mk _ _⟩
                        intro vs w1 hb hd hj
                        try simp only [prevE, lastV, List.mem_cons, List.not_mem_nil, or_false, Nat.reduceEqDiff, Nat.reduceAdd, if_true, if_false, reduceIte, or_true, true_or, or_self] at hj
                        have e0 : isV _ (vs 0) w1 := hd 0 (by decide)
                        have e1 := hd 1 (by decide); simp only [TR, Nat.reduceAdd, Nat.reduceSub, List.getD_cons_zero, List.getD_cons_succ] at e1
                        have e2 := hd 2 (by decide); simp only [TR, Nat.reduceAdd, Nat.reduceSub, List.getD_cons_zero, List.getD_cons_succ] at e2
                        have e3 : isV _ (vs 3) w1 := hd 3 (by decide)
                        have e4 : isV _ (vs 4) w1 := hd 4 (by decide)
                        have e5 : isV _ (vs 5) w1 := hd 5 (by decide)
                        have e6 := hd 6 (by decide); simp only [TR, Nat.reduceAdd, Nat.reduceSub, List.getD_cons_zero, List.getD_cons_succ] at e6
                        have e7 : isV _ (vs 7) w1 := hd 7 (by decide)
                        have e8 : isV _ (vs 8) w1 := hd 8 (by decide)
                        have e9 : isV _ (vs 9) w1 := hd 9 (by decide)
                        have e11 : isV _ (vs 11) w1 := hd 11 (by decide)
                        have e12 : isV _ (vs 12) w1 := hd 12 (by decide)
                        have e13 := hd 13 (by decide); simp only [TR, Nat.reduceAdd, Nat.reduceSub, List.getD_cons_zero, List.getD_cons_succ] at e13
                        have e14 : isV _ (vs 14) w1 := hd 14 (by decide)
                        have e15 : isV _ (vs 15) w1 := hd 15 (by decide)
                        clear hd
                        unfold isV at e0 e3 e4 e5 e7 e8 e9 e11 e12 e14 e15
                        simp only [putL, Act.put, List.setIfInBounds_toArray, List.set_cons_zero, List.set_cons_succ, e0, e3, e4, e5, e7, e8, e9, e11, e12, e14, e15]
                        clear e0 e3 e4 e5 e7 e8 e9 e11 e12 e14 e15
                        --@end
                        go_wp2_with fail
                        go_ret
                        exact ⟨rfl, bx.trans ((R4.bel hb (Nat.le_refl _)).mono bx.size)⟩
theorem walk_drops2 (L : Option Addr) (m d : Nat) (l : List Int) (x1 x2 : Int) (W : World) (hL : Sl W 1 L m d (l.map (Value.int .i64))) (hm : m ≤ 9223372036854775807) (h1 : (Lit.int .i64 x1).wf = true) (h2 : (Lit.int .u8 x2).wf = true) :
    Calls Try.prog 9 #[.slice L m d, .int .i64 x1, .int .u8 x2] W fun e w' => e = .returned (.bool true) ∧ Below W.heap.size W w' := by
  have k1 : 0 ≤ x2 ∧ x2 ≤ 255 := by simp [Lit.wf, IntKind.min, IntKind.max, IntKind.signed, IntKind.bits] at h2; omega
  obtain ⟨g, rfl⟩ : ∃ g : Nat, x2 = (g : Int) := ⟨x2.toNat, by omega⟩
  exact walk_drops L m d l x1 g W (by omega) hL hm (int_range h1)
end Go.Proofs.Ytcidifmikcnkcaa
