import Derived.Test.YtphjmbhlokkdiaaWkB
/- The workers: one that leaves. -/
namespace Go.Proofs.Ytphjmbhlokkdiaa
open Go.RowKit Go.Proofs.YtphjmbhlokkdiaaW.PrintWords Go.Proofs.YtphjmbhlokkdiaaW.PrintLast Go.Proofs.YtphjmbhlokkdiaaW.PrintMore
set_option linter.unusedSimpArgs false
set_option linter.unusedVariables false

theorem flatW_set (ys : List Wk) : ∀ (k : Nat) (t : Wk), k < ys.length → ((flatW ys).set (k * 2) (.int .i64 t.f0)).set (k * 2 + 1) (.int .i64 t.f1) = flatW (ys.set k t) := by
  induction ys with
  | nil => intro k t h; simp at h
  | cons y r ih =>
    intro k t h
    cases k with
    | zero => simp [flatW, wkC]
    | succ k =>
      have := ih k t (by simpa using h)
      simp only [flatW] at this
      simp only [flatW, List.flatMap_cons, List.set_cons_succ, wkC, Nat.add_mul, List.cons_append, List.nil_append]
      rw [this]
theorem flatW_set1 (ys : List Wk) (k : Nat) (x : Wk) (v : Int) (h : ys[k]? = some x) : (flatW ys).set (k * 2 + 1) (.int .i64 v) = flatW (ys.set k ⟨x.f0, v⟩) := by
  rw [← flatW_set ys k ⟨x.f0, v⟩ (List.getElem?_eq_some_iff.1 h).1]
  congr 1
  have h2 := flatMap_get wkC 2 (fun _ => rfl) h (j := 0) rfl
  obtain ⟨h3, h4⟩ := List.getElem?_eq_some_iff.1 h2
  simp only [Nat.add_zero] at h3 h4
  rw [← h4]
  exact (List.set_getElem_self h3).symm
theorem ownW_two {w : World} {base g n c : Nat} {ys : List Wk} (h : Own base 115 2 w (some ⟨g, 0, none⟩) n c (flatW ys)) {j : Nat} {t : Wk} (hj : ys[j]? = some t) : w.cell? ⟨g, j * 2, none⟩ = some (.int .i64 t.f0) ∧ w.cell? ⟨g, j * 2 + 1, none⟩ = some (.int .i64 t.f1) := by
  have hl := h.1
  rw [flatW_len] at hl
  have hlt := (List.getElem?_eq_some_iff.1 hj).1
  exact ⟨(World.ownsRow.cellAt h (j * 2) (by omega)).trans (flatMap_get wkC 2 (fun _ => rfl) hj (j := 0) rfl), (World.ownsRow.cellAt h (j * 2 + 1) (by omega)).trans (flatMap_get wkC 2 (fun _ => rfl) hj (j := 1) rfl)⟩
theorem indW_cases (xs : List Wk) (id : Int) : (indW xs id = -1 ∧ ∀ x, x ∈ xs → x.f0 ≠ id) ∨ ∃ (k : Nat) (t : Wk), indW xs id = (k : Int) ∧ xs[k]? = some t ∧ t.f0 = id ∧ ∀ x, x ∈ xs.take k → x.f0 ≠ id := by
  unfold indW
  cases h : xs.findIdx? (fun x => decide (x.f0 = id)) with
  | none =>
    rw [List.findIdx?_eq_none_iff] at h
    exact .inl ⟨rfl, fun x hx => by simpa using h x hx⟩
  | some i =>
    rw [List.findIdx?_eq_some_iff_getElem] at h
    obtain ⟨h1, h2, h3⟩ := h
    refine .inr ⟨i, xs[i], rfl, List.getElem?_eq_getElem h1, by simpa using h2, fun x hx => ?_⟩
    obtain ⟨j, hj, rfl⟩ := List.getElem_of_mem hx
    rw [List.getElem_take]
    rw [List.length_take] at hj
    simpa using h3 j (by omega)
def keepW (id : Int) (x : Wk) : Bool := !decide (x.f0 = id)
theorem keep_all {xs : List Wk} {id : Int} (h : ∀ x, x ∈ xs → x.f0 ≠ id) : xs.filter (keepW id) = xs := by
  rw [List.filter_eq_self]
  intro x hx
  simp [keepW, h x hx]

set_option maxRecDepth 100000 in
set_option maxHeartbeats 4000000 in
theorem delW_any (base g0 : Nat) (A : Option Addr) (n c : Nat) (xs : List Wk) (id : Int) (w : World) (ho : Own base 115 2 w A n c (flatW xs)) (hn : n ≤ 1000000) (hc : w.cell? ⟨g0, 0, none⟩ = some (.int .i64 id)) (hne : ∀ a, A = some a → a.block ≠ g0) :
    Calls Try.prog 82 #[.slice A n c, .func (.func 83) #[] #[.pointer (some ⟨g0, 0, none⟩)]] w fun e w' => ∃ A' n' c', e = .returned (.slice A' n' c') ∧ Sl w' 2 A' n' c' (flatW (xs.filter (keepW id))) ∧ w.grownBy w' (rowOf base A) := by
  have hs := ho.sl
  have hl := slW_len hs
  go_enter Try.func82, Try.ntmps82
  go_wp2_with fail
  refine (indexL_any xs A n c g0 id _ hs hn hc).mono ?_; rintro x w2 ⟨rfl, hb2⟩
  rcases indW_cases xs id with ⟨hr, hall⟩ | ⟨i0, t0, hr, ht0, hid, hall⟩
  · rw [hr]
    have HK := Lib.hid (keep_all hall)
    clear hr
    go_wp2_with fail
    go_ret
    rw [HK.out]
    exact ⟨A, n, c, rfl, hs.below hb2, below_grownBy hb2 _⟩
  · rw [hr]
    have hi0 : i0 < n := by have := (List.getElem?_eq_some_iff.1 ht0).1; omega
    have HK0 := Lib.hid (show (xs.take (i0 + 1)).filter (keepW id) = xs.take i0 by
      rw [List.take_add_one, ht0, List.filter_append, keep_all hall]
      simp [keepW, hid])
    have hAd : ∃ g, A = some ⟨g, 0, none⟩ := by
      rcases ho.2 with ⟨h0, h00⟩ | ⟨g, cap, cur, h0, _⟩
      · omega
      · simp at h0; exact ⟨g, h0.1⟩
    obtain ⟨g, rfl⟩ := hAd
    have hrow : rowOf base (some ⟨g, 0, none⟩) = some g := by rw [← own_rowI ho]; rfl
    have Hrow := Lib.hid hrow
    have hgb := (World.ownsRow.lt ho g rfl).1
    have hg0 : g ≠ g0 := hne _ rfl
    have o2 := Own.below ho hb2
    have hc2 := (World.cell?_of_block (hb2.block _ (World.block_lt_of_cell? _ _ hc))).trans hc
    have hg2 := (World.ownsRow.lt o2 g rfl).2
    have hg02 := World.block_lt_of_cell? _ _ hc2
    have Hgr := Lib.hid (below_grownBy hb2 (some g))
    clear hr hall hid hrow ho hc hs hne hb2 ht0
    have hz0 : ((i0 : Int) == -1) = false := by simp
    go_wp2_with fail
    try simp only [hz0]
    clear hz0
    go_loopw [5, 6] (fun s5 s6 wx => ∃ (i j : Nat) (ys : List Wk), i < j ∧ j ≤ n ∧ s5 = .int .i64 (i : Int) ∧ s6 = .int .i64 (j : Int) ∧ ys.length = n ∧ Hid (ys.take i = (xs.take j).filter (keepW id)) ∧ Hid (ys.drop j = xs.drop j) ∧ Own base 115 2 wx (some ⟨g, 0, none⟩) n c (flatW ys) ∧ wx.cell? ⟨g0, 0, none⟩ = some (.int .i64 id) ∧ Hid (w.grownBy wx (some g)) ∧ g0 < wx.heap.size) (fun _ jv _ => n - (intOf jv).toNat)
    case atStart => exact ⟨i0, i0 + 1, xs, by omega, by omega, rfl, by go_num, hl, Lib.hid (by rw [HK0.out]), Lib.hid rfl, o2, hc2, Hgr, hg02⟩
    case round =>
      obtain ⟨i, j, ys, hij, hjn, rfl, rfl, hyl, Hyt, Hyd, oY, hcx, Hgx, hgx0⟩ := hrel
      by_cases h2 : (j : Int) < (n : Int)
      · obtain ⟨t, ht⟩ := get_at xs j (by omega)
        have hty : ys[j]? = some t := by
          have := congrArg (fun l => l[0]?) Hyd.out
          simpa [ht] using this
        obtain ⟨y0, y1⟩ := ownW_two oY hty
        have hin : (0 : Int) ≤ (j : Int) ∧ (j : Int) < (n : Int) := by omega
        have hin2 : (0 : Int) ≤ (i : Int) ∧ (i : Int) < (n : Int) := by omega
        have Ht := Lib.hid ht
        have Hty := Lib.hid hty
        have bn := below_alloc1 wr (.cells #[.int .i64 t.f0, .int .i64 t.f1] 115)
        have oV : Own wr.heap.size 115 1 (wr.alloc (.cells #[.int .i64 t.f0, .int .i64 t.f1] 115)) (some ⟨wr.heap.size, 0, none⟩) 2 2 [.int .i64 t.f0, .int .i64 t.f1] := new_own wr [.int .i64 t.f0, .int .i64 t.f1] 115 2 rfl (by unfold maxLen; omega)
        have o3 := Own.below oY bn
        have hc3 := (World.cell?_of_block (bn.block _ hgx0)).trans hcx
        have Hg3 := Lib.hid (grownBy_trans Hgx.out (below_grownBy bn (some g)))
        have Hj := Lib.hid (show j + 1 ≤ n by omega)
        have HjT := Lib.hid (show xs.take (j + 1) = xs.take j ++ [t] by rw [List.take_add_one, ht]; rfl)
        have Hl := Lib.hid hl
        have Hyl := Lib.hid hyl
        have Hg03 := Lib.hid (Nat.lt_of_lt_of_le hgx0 bn.size)
        clear ht hty oY hcx Hgx hl hyl
        go_wp2_with fail
        refine (isWL_any t g0 id _ hc3).mono ?_; rintro x w3 ⟨rfl, hb3⟩
        have o4 := Own.below o3 hb3
        have oV4 := Own.below oV hb3
        have hc4 := (World.cell?_of_block (hb3.block _ Hg03.out)).trans hc3
        have Hg4 := Lib.hid (grownBy_trans Hg3.out (below_grownBy hb3 (some g)))
        have hgs3 := Nat.lt_of_lt_of_le Hg03.out hb3.size
        clear y0 y1 o3 oV hc3 hb3 bn
        by_cases h3 : t.f0 = id
        · have HF := Lib.hid (show (xs.take (j + 1)).filter (keepW id) = (xs.take j).filter (keepW id) by rw [HjT.out, List.filter_append]; simp [keepW, h3])
          go_wp2_with fail
          go_roundw
          case rel => exact ⟨i, j + 1, ys, by omega, Hj.out, rfl, by go_num, Hyl.out, Lib.hid (by rw [HF.out]; exact Hyt.out), Lib.hid (by
            have := congrArg (List.drop 1) Hyd.out
            simpa [List.drop_drop, Nat.add_comm] using this), o4, hc4, Hg4, by omega⟩
          case measure => have := Hj.out; simp [intOf]; omega
        · have HF := Lib.hid (show (xs.take (j + 1)).filter (keepW id) = (xs.take j).filter (keepW id) ++ [t] by rw [HjT.out, List.filter_append]; simp [keepW, h3])
          have v0 := World.ownsRow.cellAt oV4 0 (by omega)
          have v1 := World.ownsRow.cellAt oV4 1 (by omega)
          simp only [List.getElem?_cons_succ, List.getElem?_cons_zero] at v0 v1
          obtain ⟨ti, hti⟩ := get_at ys i (by have := Hyl.out; omega)
          obtain ⟨z0, z1⟩ := ownW_two o4 hti
          have f0 := World.ownsRow.frozenAt o4 (i * 2)
          have f1 := World.ownsRow.frozenAt o4 (i * 2 + 1)
          have st := World.ownsRow.stored o4 (i * 2) (.int .i64 t.f0)
          have st2 := World.ownsRow.stored st.1 (i * 2 + 1) (.int .i64 t.f1)
          have o5 := st2.1
          rw [flatW_set ys i t (by have := Hyl.out; omega)] at o5
          have hg5 := grownBy_trans st.2 st2.2
          have Hg5 := Lib.hid (grownBy_trans Hg4.out hg5)
          have hc5 := (World.cell?_of_block (hg5.block g0 (by omega) (by simpa using fun e => hg0 e.symm))).trans hc4
          clear st st2 hg5 hti
          have hgs5 : g0 < ((w3.setCell ⟨g, i * 2, none⟩ (.int .i64 t.f0)).setCell ⟨g, i * 2 + 1, none⟩ (.int .i64 t.f1)).heap.size := by simpa using hgs3
          go_wp2_with fail
          go_roundw
          case rel => exact ⟨i + 1, j + 1, ys.set i t, by omega, Hj.out, by go_num, by go_num, by simpa using Hyl.out, Lib.hid (by
            rw [HF.out, ← Hyt.out, List.take_add_one, List.take_set_of_le (by omega), List.getElem?_set, if_pos rfl, if_pos (by have := Hyl.out; omega)]; rfl), Lib.hid (by
            have := congrArg (List.drop 1) Hyd.out
            rw [List.drop_set_of_lt (by omega)]
            simpa [List.drop_drop, Nat.add_comm] using this), o5, hc5, Hg5, hgs5⟩
          case measure => have := Hj.out; simp [intOf]; omega
      · obtain rfl : j = n := by omega
        obtain ⟨i1, hi1, hq0, hq1, hq2⟩ := info_parts infoIW
        obtain ⟨hYl, hY2⟩ := oY
        rcases hY2 with ⟨h, _⟩ | ⟨g', cap, cur, h, hbg, hg, hle, hcm, hcs, htk⟩
        · simp at h
        simp at h
        obtain ⟨rfl, rfl⟩ := h
        have hic : ¬ (c = i) := by omega
        have hcm2 : c ≤ 9223372036854775807 := by unfold maxLen at hcm; exact hcm
        have hin : (i : Int) ≤ (j : Int) := by omega
        have hz1 : ∀ u ∈ (Builtin.zeroCells (Value.agg #[.int .i64 0, .int .i64 0]).cells (j - i)).toList, u.oneCell' = true := by
          intro u hu
          simp only [Builtin.zeroCells, Value.cells, Array.toList_map, List.mem_map, Array.toList_range] at hu
          obtain ⟨q, _, rfl⟩ := hu
          have : q % 2 = 0 ∨ q % 2 = 1 := by omega
          rcases this with e | e <;> simp [e, Value.oneCell']
        have hcl : ∀ ty, (Builtin.clear_ #[62] ty #[.slice (some ⟨g, i * 2, none⟩) (j - i) (c - i)]).run Try.prog wr = .ok (.tuple #[]) (wr.setRow g (splice cur.toList (i * 2) (Builtin.zeroCells (Value.agg #[.int .i64 0, .int .i64 0]).cells (j - i)).toList).toArray) := fun ty =>
          run_clearN wr 62 ty 115 i1 (.agg #[.int .i64 0, .int .i64 0]) 2 Try.underlying62 hi1 hq0 rfl g (i * 2) (j - i) (c - i) cur 115 hg hz1 (by rw [hcs]; omega)
        have Hg := Lib.hid hg
        have Htk := Lib.hid htk
        have Hcs := Lib.hid hcs
        have Hyl := Lib.hid hyl
        have HrowE := Hrow
        clear hg htk hcs hyl hYl hq0 hq1 hq2 hz1 hcx Hgr hc2 hl
        go_wp2_with (at_builtin; refine wpList_clearR _ rfl (.tmp 38) 62 rfl _ rfl (hcl _) ?_)
        go_ret
        have hcs := Hcs.out
        have hyl := Hyl.out
        have htk := Htk.out
        have hZl : (Builtin.zeroCells (Value.agg #[.int .i64 0, .int .i64 0]).cells (j - i)).toList.length = (j - i) * 2 := by rw [Array.length_toList, size_zeroCells]; rfl
        have hF : xs.filter (keepW id) = ys.take i := by
          rw [Hyt.out, List.take_of_length_le]
          have h1 := congrArg List.length Hyd.out
          simp only [List.length_drop] at h1
          omega
        have hsp : (splice cur.toList (i * 2) (Builtin.zeroCells (Value.agg #[.int .i64 0, .int .i64 0]).cells (j - i)).toList).take (i * 2) = flatW (xs.filter (keepW id)) := by
          rw [hF]
          have e1 : (flatW ys).take (i * 2) = flatW (ys.take i) := flatMap_take wkC 2 (fun _ => rfl) ys i
          rw [← e1, ← htk, List.take_take, Nat.min_eq_left (by omega)]
          unfold splice
          rw [List.take_append_of_le_length (by rw [List.length_take]; simp only [Array.length_toList]; omega), List.take_take, Nat.min_self]
        rw [Hrow.out]
        have hown : Own base 115 2 (wr.setRow g (splice cur.toList (i * 2) (Builtin.zeroCells (Value.agg #[.int .i64 0, .int .i64 0]).cells (j - i)).toList).toArray) (some ⟨g, 0, none⟩) i c (flatW (xs.filter (keepW id))) :=
          ⟨by rw [hF, flatW_len, List.length_take]; omega, .inr ⟨g, c, _, rfl, hbg, setRow_heap wr g _ _ 115 (0, 0) Hg.out, by omega, hcm, by rw [List.size_toArray, length_splice _ _ _ (by simp only [hZl, Array.length_toList]; omega)]; simpa using hcs, hsp⟩⟩
        refine ⟨_, _, _, rfl, hown.sl, grownBy_trans Hgx.out ⟨rfl, rfl, rfl, by simp [World.setRow], fun k hk hne => ?_⟩⟩
        rw [setRow_other _ g k _ (fun e => hne (by rw [e]))]
end Go.Proofs.Ytphjmbhlokkdiaa
