import Derived.Test.YtphjmbhlokkdiaaFairB
import Derived.Maps.OwnSet
import Derived.StringKeys
namespace Go.Proofs.Ytphjmbhlokkdiaa
open Go.RowKit Go.Maps Go.WideShapes Go.WideMaps
set_option linter.unusedSimpArgs false
set_option linter.unusedVariables false

theorem lawS : Keyed Try.prog 9 := string_keyed Try.underlying9
theorem zeroI (w : World) : (zeroValue 3).run Try.prog w = .ok (.int .i64 0) w := by kernel_rfl
theorem keyS (s : List UInt8) (h : s.length ≤ 40) : keyOf Try.prog 9 (.string (bstr s)) = some (.string s) := by
  have := keyOf_string_mk (P := Try.prog) Try.underlying9 (s := bstr s) (by show s.length ≤ maxLen; unfold maxLen; omega)
  rw [this]
  rfl
/-- a map of the names that were seen -/
def SeenD (D : DataW Unit) (l : List (List UInt8)) : Prop := ∀ s : List UInt8, D.atKey (.string s) (.lit (.int .i64 0)) = .lit (.int .i64 (if s ∈ l then 1 else 0))
theorem seen_empty : SeenD (.map []) [] := fun s => by simp [DataW.atKey]
theorem SeenD.put {D : DataW Unit} {l : List (List UInt8)} (h : SeenD D l) (hD : IsMap D) (s : List UInt8) : SeenD (D.put (.string s) (.lit (.int .i64 1))) (s :: l) := by
  intro r
  by_cases hr : r = s
  · subst hr
    rw [atKey_put_same hD (by trivial)]
    simp
  · rw [atKey_put_other (by simpa using hr), h r]
    simp [hr]
theorem SeenD.look {D : DataW Unit} {l : List (List UInt8)} {w : World} {b n : Nat} (h : SeenD D l) (ho : w.ownsMap Try.prog 9 (plainElem Try.prog 3) b n D) (s : List UInt8) (hs : s.length ≤ 40) :
    (Instr.lookup 101 (.map (some b)) (.string (bstr s)) false).run Try.prog w = .ok (.int .i64 (if s ∈ l then 1 else 0)) w := by
  obtain ⟨c, hrun, hat, hw⟩ := ho.lookup_int lawS Try.underlying101 Try.underlying3 (zeroI w) (keyS s hs)
  rw [h s] at hat
  simp only [DataW.lit.injEq, Lit.int.injEq, true_and] at hat
  rw [hrun, ← hat]

structure Fr where
  Q : Int
  ts : List Tn
  At : Int
  H : Bool
def belowF (f : Fr) (k : Nat) : Int := if (k : Int) = f.At ∧ f.H = true then 1000 + 100 * f.Q else 1000
def okT (f : Fr) (k : Nat) (q : Tn) : Bool := namedB q.N && decide (1 ≤ q.W) && decide (q.W ≤ 100) && decide (0 ≤ q.L) && decide (q.L < belowF f k)
def okAt (f : Fr) (k : Nat) : Bool := match f.ts[k]? with | some q => okT f k q && !decide (q.N ∈ (f.ts.take k).map Tn.N) | none => true
def rightF (f : Fr) : Bool := decide (1 ≤ f.Q) && decide (f.Q ≤ 1000) && decide (f.ts.length ≤ 20) && decide (0 ≤ f.At) && decide (f.At < max (f.ts.length : Int) 1) && !(f.ts.length == 0 && f.H) && (List.range f.ts.length).all (okAt f)
theorem take_snoc {α : Type} {l : List α} {k : Nat} {x : α} (h : l[k]? = some x) : l.take (k + 1) = l.take k ++ [x] := by rw [List.take_add_one, h]; rfl
theorem rightF_bad {f : Fr} {k : Nat} (hk : k < f.ts.length) (h : okAt f k = false) : rightF f = false := by
  unfold rightF
  have : (List.range f.ts.length).all (okAt f) = false := by
    rw [List.all_eq_false]
    exact ⟨k, List.mem_range.2 hk, by rw [h]; simp⟩
  rw [this]; simp

set_option maxRecDepth 100000 in
set_option maxHeartbeats 8000000 in
theorem fright_any (f : Fr) (A : Option Addr) (m d : Nat) (w : World) (hs : Sl w 3 A m d (flatT f.ts)) (hm : m ≤ 1000000) (hQ : -9223372036854775808 ≤ f.Q ∧ f.Q ≤ 9223372036854775807) :
    Calls Try.prog 25 #[frV f.Q A m d f.At f.H] w fun e w' => e = .returned (.bool (rightF f)) ∧ Below w.heap.size w w' := by
  obtain ⟨Q, ts, At, H⟩ := f
  simp only at hs hQ ⊢
  have hl := slT_len hs
  have hb0 := below_alloc1 w (.cells #[.int .i64 Q, .slice A m d, .int .i64 At, .bool H] 36)
  have hmm := @run_makeMap Try.prog
  unfold frV
  go_enter Try.func25, Try.ntmps25
  by_cases h1 : Q < 1
  · go_wp2_with fail
    go_ret
    exact ⟨by simp [rightF, show ¬ 1 ≤ Q by omega], hb0⟩
  by_cases h2 : 1000 < Q
  · go_wp2_with fail
    go_ret
    exact ⟨by simp [rightF, show ¬ Q ≤ 1000 by omega], hb0⟩
  by_cases h3 : 20 < m
  · go_wp2_with fail
    go_ret
    exact ⟨by simp [rightF, hl, show ¬ m ≤ 20 by omega], hb0⟩
  by_cases h4 : At < 0
  · go_wp2_with fail
    go_ret
    exact ⟨by simp [rightF, show ¬ 0 ≤ At by omega], hb0⟩
  by_cases h5 : max (m : Int) 1 ≤ At
  · go_wp2_with fail
    go_ret
    exact ⟨by simp [rightF, hl, show ¬ At < max (m : Int) 1 by omega], hb0⟩
  by_cases h6 : m = 0
  · subst h6
    have hb1 := below_alloc1 (w.alloc (.cells #[.int .i64 Q, .slice A 0 d, .int .i64 At, .bool H] 36)) (.map #[] 0)
    have hbA := hb0.trans (hb1.mono hb0.size)
    cases H with
    | true =>
      go_wp2_with fail
      go_ret
      exact ⟨by simp [rightF, hl], hb0⟩
    | false =>
      go_wp2_with fail
      refine wp_loop_rounds 1 ?_
      rw [rounds_succ]
      go_wp2_with fail
      go_ret
      refine ⟨?_, hbA⟩
      have : rightF ⟨Q, ts, At, false⟩ = true := by
        unfold rightF
        simp only [hl, List.range_zero, List.all_nil]
        simp at *
        omega
      rw [this]
      rfl
  · obtain ⟨w0, hw0⟩ : ∃ w0, w0 = w.alloc (.cells #[.int .i64 Q, .slice A m d, .int .i64 At, .bool H] 36) := ⟨_, rfl⟩
    have o0 : Own w.heap.size 36 1 (w.alloc (.cells #[.int .i64 Q, .slice A m d, .int .i64 At, .bool H] 36)) (some ⟨w.heap.size, 0, none⟩) 4 4 (frC Q A m d At H) := new_own w (frC Q A m d At H) 36 4 rfl (by unfold maxLen; omega)
    have n0 : (w.alloc (.cells #[.int .i64 Q, .slice A m d, .int .i64 At, .bool H] 36)).heap.size = w.heap.size + 1 := by simp
    rw [← hw0] at o0 n0 hb0
    have hown := World.ownsMap_made (H := Unit) w0 Try.prog 9 (plainElem Try.prog 3)
    have hb1 := below_alloc1 w0 (.map #[] 0)
    have n1 : (w0.alloc (.map #[] 0)).heap.size = w0.heap.size + 1 := by simp
    rw [n0] at hown n1
    have o1 := o0.below hb1
    have hbM := hb0.trans (hb1.mono hb0.size)
    clear hb1
    have Hm := Lib.hid h6
    subst hw0
    clear hb0 o0 n0
    go_upto_block 0 with fail
    generalize (w.alloc (.cells #[.int .i64 Q, .slice A m d, .int .i64 At, .bool H] 36)).alloc (.map #[] 0) = W1 at *
    have HW := Lib.hid n1
    clear n1
    have hd1 : decide (max (m : Int) 1 ≤ At) = false := by simpa using h5
    have hd2 : decide (m = 0) = false := by simpa using h6
    have hd3 : decide ((20 : Int) < (m : Int)) = false := by simp; omega
    have hd4 : ((m : Int) == 0) = false := by simp; omega
    try simp only [hd1, hd2, hd3, hd4]
    clear hd1 hd2 hd3 hd4 h6
    go_wp2_with fail
    go_loopw [47] (fun s47 wx => ∃ (k : Nat) (D : DataW Unit) (sn : List (List UInt8)), k ≤ m ∧ s47 = .int .i64 (k : Int) ∧ wx.ownsMap Try.prog 9 (plainElem Try.prog 3) (w.heap.size + 1) k D ∧ Hid (SeenD D sn) ∧ Hid (∀ s, s ∈ sn ↔ s ∈ (ts.take k).map Tn.N) ∧ Hid (∀ j, j < k → okAt ⟨Q, ts, At, H⟩ j = true) ∧ Below (w.heap.size + 1) W1 wx) (fun iv _ => m - (intOf iv).toNat)
    case atStart => exact ⟨0, .map [], [], by omega, rfl, hown, Lib.hid seen_empty, Lib.hid (by simp), Lib.hid (fun j hj => by omega), Below.refl _ _⟩
    case round =>
      obtain ⟨k, D, sn, hk, rfl, hmap, HD, Hsn, Hok, hbx⟩ := hrel
      have ox := o1.keep hbx (by omega)
      have hbw := hbM.trans (hbx.mono (by omega))
      have y0 := World.ownsRow.cellAt ox 0 (by omega)
      have y2 := World.ownsRow.cellAt ox 2 (by omega)
      have y3 := World.ownsRow.cellAt ox 3 (by omega)
      simp only [frC, List.getElem?_cons_succ, List.getElem?_cons_zero] at y0 y2 y3
      by_cases g1 : (k : Int) < (m : Int)
      · obtain ⟨q, hq⟩ := get_some ts k (by omega)
        have hsx := hs.below hbw
        obtain ⟨ad, rfl⟩ := slT_addr hs hq
        obtain ⟨z0, z1, z2⟩ := slT_three hsx hq
        have hin : (0 : Int) ≤ (k : Int) ∧ (k : Int) < (m : Int) := by omega
        have Hq := Lib.hid hq
        have Hl := Lib.hid hl
        clear hq hl hsx
        have hbt := below_alloc1 wr (.cells q.cells.toArray 51)
        have ot : Own wr.heap.size 51 1 (wr.alloc (.cells q.cells.toArray 51)) (some ⟨wr.heap.size, 0, none⟩) 3 3 q.cells := new_own wr q.cells 51 3 rfl (by unfold maxLen; omega)
        have hmap2 := hmap.alloc (.cells q.cells.toArray 51)
        have ox2 := ox.below hbt
        have hbx2 := hbx.trans (hbt.mono (by have := hbx.size; have := HW.out; omega))
        simp only [Tn.cells] at hbt ot hmap2 ox2 hbx2
        go_upto_region 8 with fail
        rename_i hK8
        have HK8 := Lib.hid hK8
        clear hK8
        generalize wr.alloc (.cells #[.string (bstr q.N), .int .i64 q.W, .int .i64 q.L] 51) = w3 at *
        clear y0 y2 y3 z0 z1 z2 hmap ox hbt hbx hbw
        have y0 := World.ownsRow.cellAt ox2 0 (by omega)
        have y2 := World.ownsRow.cellAt ox2 2 (by omega)
        have y3 := World.ownsRow.cellAt ox2 3 (by omega)
        simp only [frC, List.getElem?_cons_succ, List.getElem?_cons_zero] at y0 y2 y3
        go_wp2_with fail
        refine HK8.out _ _ ?_
        clear HK8
        go_step
        go_cut [7] from 52 to 64 (fun s7 wx => s7 = .int .i64 (belowF ⟨Q, ts, At, H⟩ k) ∧ wx = w3)
        case first =>
          by_cases c1 : (k : Int) = At
          · cases H with
            | true =>
              have hbe : belowF ⟨Q, ts, At, true⟩ k = 1000 + 100 * Q := by simp [belowF, c1]
              have Hbe := Lib.hid hbe
              clear hbe
              subst c1
              go_wp2_with fail
              go_meet
              exact ⟨by rw [Hbe.out], rfl⟩
            | false =>
              have hbe : belowF ⟨Q, ts, At, false⟩ k = 1000 := by simp [belowF]
              have Hbe := Lib.hid hbe
              clear hbe
              subst c1
              go_wp2_with fail
              go_meet
              exact ⟨by rw [Hbe.out], rfl⟩
          · have hbe : belowF ⟨Q, ts, At, H⟩ k = 1000 := by simp [belowF, c1]
            have Hbe := Lib.hid hbe
            clear hbe
            go_wp2_with fail
            go_meet
            exact ⟨by rw [Hbe.out], rfl⟩
        case rest =>
          obtain ⟨rfl, rfl⟩ := hcut
          rename_i w4
          have hbw := hbM.trans (hbx2.mono (by have := HW.out; omega))
          have c0 := World.ownsRow.cellAt ot 0 (by omega)
          have c1 := World.ownsRow.cellAt ot 1 (by omega)
          have c2 := World.ownsRow.cellAt ot 2 (by omega)
          simp only [List.getElem?_cons_succ, List.getElem?_cons_zero] at c0 c1 c2
          obtain ⟨bl, hbl⟩ : ∃ b, b = belowF ⟨Q, ts, At, H⟩ k := ⟨_, rfl⟩
          rw [← hbl]
          have Hbl := Lib.hid hbl
          clear hbl y0 y2 y3 ot ox2 hown o1
          cases hnm : namedB q.N with
          | false =>
              go_wp2_with (go_at_call 60; refine (fnamed_any q.N _).mono ?_; rintro x w5 ⟨rfl, rfl⟩; rw [hnm])
              go_ret
              exact ⟨by rw [rightF_bad (f := ⟨Q, ts, At, H⟩) (k := k) (by show k < ts.length; rw [Hl.out]; omega) (by simp [okAt, Hq.out, okT, hnm])]; rfl, hbw⟩
          | true =>
            have hln : q.N.length ≤ 40 := by simp [namedB] at hnm; omega
            have hlook := HD.out.look hmap2 q.N hln
            by_cases hsn : q.N ∈ sn
            · rw [if_pos hsn] at hlook
              have hmem := (Hsn.out q.N).1 hsn
              go_wp2_with (go_at_call 60; refine (fnamed_any q.N _).mono ?_; rintro x w5 ⟨rfl, rfl⟩; rw [hnm])
              go_ret
              exact ⟨by rw [rightF_bad (f := ⟨Q, ts, At, H⟩) (k := k) (by show k < ts.length; rw [Hl.out]; omega) (by simp only [okAt, Hq.out]; simp only [decide_eq_true hmem]; simp)]; rfl, hbw⟩
            · rw [if_neg hsn] at hlook
              by_cases k1 : q.W < 1
              · go_wp2_with (go_at_call 60; refine (fnamed_any q.N _).mono ?_; rintro x w5 ⟨rfl, rfl⟩; rw [hnm])
                go_ret
                exact ⟨by rw [rightF_bad (f := ⟨Q, ts, At, H⟩) (k := k) (by show k < ts.length; rw [Hl.out]; omega) (by simp [okAt, Hq.out, okT, show ¬ 1 ≤ q.W by omega])]; rfl, hbw⟩
              by_cases k2 : 100 < q.W
              · go_wp2_with (go_at_call 60; refine (fnamed_any q.N _).mono ?_; rintro x w5 ⟨rfl, rfl⟩; rw [hnm])
                go_ret
                exact ⟨by rw [rightF_bad (f := ⟨Q, ts, At, H⟩) (k := k) (by show k < ts.length; rw [Hl.out]; omega) (by simp [okAt, Hq.out, okT, show ¬ q.W ≤ 100 by omega])]; rfl, hbw⟩
              by_cases k3 : q.L < 0
              · go_wp2_with (go_at_call 60; refine (fnamed_any q.N _).mono ?_; rintro x w5 ⟨rfl, rfl⟩; rw [hnm])
                go_ret
                exact ⟨by rw [rightF_bad (f := ⟨Q, ts, At, H⟩) (k := k) (by show k < ts.length; rw [Hl.out]; omega) (by simp [okAt, Hq.out, okT, show ¬ 0 ≤ q.L by omega])]; rfl, hbw⟩
              by_cases k4 : bl ≤ q.L
              · go_wp2_with (go_at_call 60; refine (fnamed_any q.N _).mono ?_; rintro x w5 ⟨rfl, rfl⟩; rw [hnm])
                go_ret
                exact ⟨by rw [rightF_bad (f := ⟨Q, ts, At, H⟩) (k := k) (by show k < ts.length; rw [Hl.out]; omega) (by have := Hbl.out; simp [okAt, Hq.out, okT, ← this, show ¬ q.L < bl by omega])]; rfl, hbw⟩
              have hokk : okAt ⟨Q, ts, At, H⟩ k = true := by
                have h1 := Hbl.out
                have h2 : ¬ q.N ∈ (ts.take k).map Tn.N := fun h => hsn ((Hsn.out q.N).2 h)
                simp only [okAt, Hq.out, okT, ← h1, hnm, decide_eq_false h2]
                simp
                omega
              go_wp2_with (first | (go_at_call 60; refine (fnamed_any q.N _).mono ?_; rintro x w5 ⟨rfl, rfl⟩; rw [hnm]) | (at_mapUpdate; refine wpList_mapUpdate_own _ rfl _ _ _ 101 rfl 9 3 lawS Try.underlying101 _ (w.heap.size + 1) k _ rfl hmap2 (by unfold maxLen; omega) _ _ _ rfl rfl (keyS q.N hln) _ [] (plainElem_int Try.underlying3 (by decide)) ?_; intro w5 hmap5 hgr5))
              go_roundw
              case rel => exact ⟨k + 1, _, q.N :: sn, by omega, by go_num, hmap5, Lib.hid (HD.out.put hmap2.isMap q.N), Lib.hid (fun s => by rw [take_snoc Hq.out, List.map_append, List.mem_append, List.mem_cons, Hsn.out s]; simp [or_comm]), Lib.hid (fun j hj => by rcases Nat.lt_succ_iff_lt_or_eq.1 hj with h | rfl; exact Hok.out j h; exact hokk), hbx2.grown hgr5 (by have := hbx2.size; have := HW.out; omega) (fun j hj => by cases hj; exact Nat.le_refl _)⟩
              case measure => simp [intOf]; omega
      · obtain rfl : k = m := by omega
        go_wp2_with fail
        go_ret
        refine ⟨?_, hbw⟩
        have : rightF ⟨Q, ts, At, H⟩ = true := by
          have hall : (List.range ts.length).all (okAt ⟨Q, ts, At, H⟩) = true := by
            rw [List.all_eq_true]
            intro j hj
            exact Hok.out j (by rw [← hl]; exact List.mem_range.1 hj)
          have h0 := Hm.out
          unfold rightF
          simp only [hl] at hall ⊢
          rw [hall]
          simp
          omega
        rw [this]
        rfl
end Go.Proofs.Ytphjmbhlokkdiaa
