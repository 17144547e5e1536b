import Derived.Test.YtcidifmikcnkcaaR8C
/- The document's rings, by value: Names. -/
namespace Go.Proofs.Ytcidifmikcnkcaa
open Go.RowKit
set_option linter.unusedSimpArgs false
set_option linter.unusedVariables false

theorem held_snoc (l : List (Nm × Qu)) (e : Nm × Qu) : heldN (l ++ [e]) = if e.2.l = [] then heldN l else heldN l ++ [e.1] := by
  unfold heldN
  rw [List.filter_append]
  by_cases h : e.2.l = []
  · simp [h]
  · have h2 : e.2.l.isEmpty = false := by simpa using h
    simp [h, h2]
theorem held_len (l : List (Nm × Qu)) : (heldN l).length ≤ l.length := by
  unfold heldN
  rw [List.length_map]
  exact List.length_filter_le _ _
section
variable {w : World} {most : Int} {A : Option Addr} {n c : Nat} {es : List QE}
set_option maxRecDepth 100000 in
set_option maxHeartbeats 8000000 in
theorem r8Names_any (hs : Sl w 3 A n c (flatQE es)) (hn : n ≤ 1000) :
    Calls Try.prog 30 #[.agg #[.int .i64 most, .slice A n c]] w fun x w' => ∃ A' c', x = .returned (.slice A' (heldN (es.map QE.p)).length c') ∧ Sl w' 1 A' (heldN (es.map QE.p)).length c' (strsL (heldN (es.map QE.p))) ∧ Below w.heap.size w w' := by
  have hln := slQE_len hs
  obtain ⟨PP, hPP⟩ : ∃ PP, PP = es.map QE.p := ⟨_, rfl⟩
  have HPP := Lib.hid hPP
  rw [← hPP]
  have HLP := Lib.hid (show PP.length = n by rw [hPP, List.length_map, hln])
  clear hPP
  have hb1 := below_alloc1 w (.cells #[.int .i64 most, .slice A n c] 39)
  have k1 := box_cells8 w [.int .i64 most, .slice A n c] 39 1 _ rfl
  obtain ⟨w1, hw1⟩ : ∃ w1, w1 = w.alloc (.cells #[.int .i64 most, .slice A n c] 39) := ⟨_, rfl⟩
  have hT1 : (w.alloc (.cells [Value.int .i64 most, .slice A n c].toArray 39)) = w1 := hw1.symm
  rw [hT1] at k1
  rw [← hw1] at hb1
  have eW : w.alloc (.cells #[.int .i64 most, .slice A n c] 39) = w1 := hw1.symm
  have HB := Lib.hid hb1
  have HS := Lib.hid (hs.below hb1)
  have K1 := Lib.hid k1
  clear hb1 hw1 hT1 hs k1
  go_enter Try.func30, Try.ntmps30
  go_upto_region 1 with fail
  clear eW
  go_wp2_with fail
  go_loopw [3, 4] (fun s3 s4 wx => ∃ (k m : Nat) (A1 : Option Addr) (c1 : Nat) (acc : List Nm), k ≤ n ∧ m ≤ k ∧ s3 = .slice A1 m c1 ∧ s4 = .int .i64 (k : Int) ∧ Hid (acc = heldN (PP.take k) ∧ acc.length = m) ∧ Hid (App w1.heap.size 9 1 wx A1 m c1 (strsL acc)) ∧ Hid (Below w1.heap.size w1 wx)) (fun _ iv _ => n - (intOf iv).toNat)
  case atStart => exact ⟨0, 0, none, 0, [], by omega, by omega, rfl, rfl, Lib.hid ⟨rfl, rfl⟩, Lib.hid (App.nil _ _ _ _), Lib.hid (Below.refl _ _)⟩
  case round =>
    obtain ⟨k, m, A1, c1, acc, hk, hmk, rfl, rfl, HA, HO, HW⟩ := hrel
    have d1 := cell8 HW.out K1.out
    by_cases g1 : (k : Int) < (n : Int)
    · obtain ⟨e, he⟩ := get_some es k (by omega)
      have hss := HS.out.below HW.out
      obtain ⟨ad, rfl⟩ := slQE_addr hss he
      obtain ⟨y0, y1, y2⟩ := slQE_three hss he
      have hin : (0 : Int) ≤ (k : Int) ∧ (k : Int) < (n : Int) := by omega
      have HT := Lib.hid (show heldN (PP.take (k + 1)) = if e.q.l = [] then acc else acc ++ [e.nm] by
        rw [take_snocP (show PP[k]? = some (e.nm, e.q) by rw [HPP.out, List.getElem?_map, he]; rfl), held_snoc, ← HA.out.1])
      clear hss he
      by_cases h0 : e.q.l = []
      · have hz : e.q.l.length = 0 := by rw [h0]; rfl
        have HT2 := Lib.hid (show heldN (PP.take (k + 1)) = acc by rw [HT.out, if_pos h0])
        obtain ⟨ln, hln2⟩ : ∃ ln, ln = e.q.l.length := ⟨_, rfl⟩
        rw [← hln2] at hz y2
        subst hz
        clear h0 hln2
        go_wp2_with fail
        go_roundw
        case rel => exact ⟨k + 1, m, A1, c1, acc, by omega, by omega, rfl, by go_num, Lib.hid ⟨HT2.out.symm, HA.out.2⟩, HO, HW⟩
        case measure => simp [intOf]; omega
      · have hz : 0 < e.q.l.length := by cases h : e.q.l with | nil => exact absurd h h0 | cons a r => simp
        have HT2 := Lib.hid (show heldN (PP.take (k + 1)) = acc ++ [e.nm] by rw [HT.out, if_neg h0])
        obtain ⟨ln, hln2⟩ : ∃ ln, ln = e.q.l.length := ⟨_, rfl⟩
        rw [← hln2] at hz y2
        clear h0 hln2
        have hz2 : (0 : Int) < (ln : Int) := by omega
        have hsl := sl_one wr (.string (bstr e.nm)) 9
        have hb5 := below_alloc1 wr (.cells #[.string (bstr e.nm)] 9)
        have ha6 := HO.out.below hb5
        have hs5 := Nat.le_trans HW.out.size hb5.size
        have HB5 := Lib.hid (HW.out.trans (hb5.mono HW.out.size))
        clear hb5
        go_wp2_with (at_builtin; refine wpList_app _ rfl _ _ 31 rfl w1.heap.size 9 (.string { data := #[] }) 1 16 Try.underlying31 infoStrR rfl (by decide) A1 m c1 (strsL acc) rfl ha6 (some ⟨wr.heap.size, 0, none⟩) 1 1 [.string (bstr e.nm)] rfl hsl (fun u hu => by simp at hu; subst hu; rfl) (by unfold maxLen; omega) (by omega) hs5 ?_; intro A8 c8 w8 hat8)
        have HO8 := Lib.hid (show App w1.heap.size 9 1 w8 A8 (m + 1) c8 (strsL (acc ++ [e.nm])) from by
          have h1 := hat8.app
          rwa [show strsL acc ++ [Value.string (bstr e.nm)] = strsL (acc ++ [e.nm]) by simp [strsL]] at h1)
        have HW8 := Lib.hid (HB5.out.grown hat8.grown hs5 (fun k hk => rowOf_ge hk))
        clear hat8 ha6 hsl
        go_wp2_with fail
        go_roundw
        case rel => exact ⟨k + 1, m + 1, A8, c8, acc ++ [e.nm], by omega, by omega, rfl, by go_num, Lib.hid ⟨HT2.out.symm, by rw [List.length_append, HA.out.2]; rfl⟩, HO8, HW8⟩
        case measure => simp [intOf]; omega
    · obtain rfl : k = n := by omega
      have HF := Lib.hid (show heldN PP = acc by rw [HA.out.1, List.take_of_length_le (by rw [HLP.out]; exact Nat.le_refl _)])
      go_wp2_with fail
      go_ret
      rw [HF.out, HA.out.2]
      exact ⟨A1, c1, rfl, HO.out.sl, HB.out.trans (HW.out.mono HB.out.size)⟩
end
end Go.Proofs.Ytcidifmikcnkcaa
