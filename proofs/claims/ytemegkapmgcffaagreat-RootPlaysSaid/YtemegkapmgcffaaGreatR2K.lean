import Derived.Test.YtemegkapmgcffaaGreatR2H
/- The document's disk, by value: Remove (printed by wip/gen/gr2k.py). -/
namespace Go.Proofs.YtemegkapmgcffaaGreat
open Go.RowKit
set_option linter.unusedSimpArgs false
set_option linter.unusedVariables false

def notE (nm : Nm) (e : FE) : Bool := !(e.f.nm == nm)
theorem erase_not {fs : List Fl} (hs : SrtF fs) {k : Nat} {f : Fl} (hf : fs[k]? = some f) : fs.eraseIdx k = fs.filter (fun x => !(x.nm == f.nm)) := by
  have h := erase_filter hs hf (fun _ => true)
  rw [List.filter_eq_self.2 (fun _ _ => rfl)] at h
  simpa using h
section
variable {w : World} {room fuse : Int} {dark : Bool} {A : Option Addr} {n c : Nat} {es : List FE}
set_option maxRecDepth 100000 in
set_option maxHeartbeats 16000000 in
theorem r2Remove_any {G : Nat → Prop} (hG : ∀ q, w.heap.size ≤ q → G q) (hs : R2 G w A n c es) (hso : SrtF (es.map FE.f)) (hn : n ≤ 1000) (hf : -9223372036854775808 ≤ fuse ∧ fuse ≤ 9223372036854775807) (nm : Nm) :
    Calls Tryz.prog 11 #[.agg #[.int .i64 room, .slice A n c, .int .i64 fuse, .bool dark], .string (bstr nm)] w (R2P G w (removeD ⟨room, fuse, dark, es.map FE.f⟩ nm)) := by
  have hb1 := below_alloc1 w (.cells #[.int .i64 room, .slice A n c, .int .i64 fuse, .bool dark] 30)
  have k0 := box_cellsR w [.int .i64 room, .slice A n c, .int .i64 fuse, .bool dark] 30 0 _ rfl
  have k1 := box_cellsR w [.int .i64 room, .slice A n c, .int .i64 fuse, .bool dark] 30 1 _ rfl
  have k2 := box_cellsR w [.int .i64 room, .slice A n c, .int .i64 fuse, .bool dark] 30 2 _ rfl
  have k3 := box_cellsR w [.int .i64 room, .slice A n c, .int .i64 fuse, .bool dark] 30 3 _ rfl
  have ob := new_own w [.int .i64 room, .slice A n c, .int .i64 fuse, .bool dark] 30 4 rfl (by unfold maxLen; omega)
  obtain ⟨w1, hw1⟩ : ∃ w1, w1 = w.alloc (.cells #[.int .i64 room, .slice A n c, .int .i64 fuse, .bool dark] 30) := ⟨_, rfl⟩
  have hT1 : (w.alloc (.cells [.int .i64 room, .slice A n c, .int .i64 fuse, .bool dark].toArray 30)) = w1 := hw1.symm
  rw [hT1] at k0 k1 k2 k3 ob
  rw [← hw1] at hb1
  have hz1 : w1.heap.size = w.heap.size + 1 := by rw [hw1]; simp
  have hb2 := below_alloc1 w1 (.cells #[.int .i64 0, .slice none 0 0, .int .i64 0, .bool false] 30)
  have orr := new_own w1 [.int .i64 0, .slice none 0 0, .int .i64 0, .bool false] 30 4 rfl (by unfold maxLen; omega)
  obtain ⟨w2, hw2⟩ : ∃ w2, w2 = w1.alloc (.cells #[.int .i64 0, .slice none 0 0, .int .i64 0, .bool false] 30) := ⟨_, rfl⟩
  have hT2 : (w1.alloc (.cells [.int .i64 0, .slice none 0 0, .int .i64 0, .bool false].toArray 30)) = w2 := hw2.symm
  rw [hT2, hz1] at orr
  rw [← hw2] at hb2
  have eW : (w.alloc (.cells #[.int .i64 room, .slice A n c, .int .i64 fuse, .bool dark] 30)).alloc (.cells #[.int .i64 0, .slice none 0 0, .int .i64 0, .bool false] 30) = w2 := by rw [hw2, hw1]
  have k0 := cellB hb2 k0
  have k1 := cellB hb2 k1
  have k2 := cellB hb2 k2
  have k3 := cellB hb2 k3
  have OB := Lib.hid (Own.below ob hb2)
  have OR := Lib.hid (Own.lower orr (show w.heap.size ≤ w.heap.size + 1 by omega))
  have HB := Lib.hid (hb1.trans (hb2.mono hb1.size))
  clear hb1 hb2 hw1 hw2 hT1 hT2 hz1 ob orr
  have hln := slFE_len hs.sl
  have HS0 := Lib.hid hs
  have HS := Lib.hid (hs.below HB.out)
  have HSO := Lib.hid hso
  have HG := Lib.hid hG
  have K0 := Lib.hid k0
  have K1 := Lib.hid k1
  have K2 := Lib.hid k2
  have K3 := Lib.hid k3
  have hc := r2asked_any (room := room) (fuse := fuse) (dark := dark) HS.out HSO.out (by omega) nm
  clear hs hso hG
  go_enter Tryz.func11, Tryz.ntmps11
  go_upto_region 1 with fail
  clear eW
  go_wp2_with fail
  refine hc.mono ?_; intro x w3 hx
  clear hc k0 k1 k2 k3
  obtain ⟨ak, hak⟩ : ∃ ak, askF (es.map FE.f) dark nm = ak := ⟨_, rfl⟩
  by_cases h0 : ak = 0
  · subst h0
    have hdk : dark = false := by
      cases dark with
      | false => rfl
      | true => unfold askF at hak; rw [if_pos rfl] at hak; cases hak
    subst hdk
    have ht : thereF (es.map FE.f) nm = true := by
      cases ht : thereF (es.map FE.f) nm with
      | true => rfl
      | false => unfold askF at hak; rw [if_neg (by simp), if_neg (by rw [ht]; simp)] at hak; cases hak
    obtain ⟨f, hff, hfn⟩ := there_true ht
    have hlk : lookF (es.map FE.f) nm = f := by unfold lookF; rw [ht, hff]
    obtain ⟨B, d, rfl, sB, lB, b3⟩ := asked_yes hx hak hlk
    have HE := Lib.hid (show removeD ⟨room, fuse, false, es.map FE.f⟩ nm = deedD ⟨room, fuse, false, es.map FE.f⟩ ((es.filter (notE nm)).map FE.f) by
      unfold removeD ofD
      rw [if_neg (by simp)]
      simp only [ht, hff]
      rw [if_neg (by simp), erase_not HSO.out hff, hfn, List.filter_map]
      rfl)
    clear hx hlk hff ht hak
    have q0 := box_cellsR w3 [.string (bstr nm), .slice B f.b.length d, .int .i64 f.safe] 82 0 _ rfl
    have q1 := box_cellsR w3 [.string (bstr nm), .slice B f.b.length d, .int .i64 f.safe] 82 1 _ rfl
    have q2 := box_cellsR w3 [.string (bstr nm), .slice B f.b.length d, .int .i64 f.safe] 82 2 _ rfl
    have qb := below_alloc1 w3 (.cells #[.string (bstr nm), .slice B f.b.length d, .int .i64 f.safe] 82)
    have qo := new_own w3 [.string (bstr nm), .slice B f.b.length d, .int .i64 f.safe] 82 3 rfl (by unfold maxLen; omega)
    go_upto_region 2 with fail
    obtain ⟨w4, hw4⟩ : ∃ w4, w4 = w3.alloc (.cells #[.string (bstr nm), .slice B f.b.length d, .int .i64 f.safe] 82) := ⟨_, rfl⟩
    have hTw4 : (w3.alloc (.cells [.string (bstr nm), .slice B f.b.length d, .int .i64 f.safe].toArray 82)) = w4 := hw4.symm
    rw [hTw4] at q0 q1 q2 qo
    rw [← hw4] at qb ⊢
    clear hTw4 hw4
    have b24 := b3.trans (qb.mono b3.size)
    have B4 := Lib.hid (HB.out.trans (b24.mono HB.out.size))
    have OR4 := Lib.hid (Own.below OR.out b24)
    have SB4 := Lib.hid (sB.below qb)
    have LB4 := Lib.hid (show bytesV f.b ≠ [] → ∀ a, B = some a → a.block < w4.heap.size ∧ G a.block from fun hne a ha => ⟨Nat.lt_of_lt_of_le (lB hne a ha).1 qb.size, (lB hne a ha).2⟩)
    have QO4 := Lib.hid qo
    have hq3 : w.heap.size + 2 ≤ w3.heap.size := by have := b3.size; have := HB.out.size; have := (own_ltR OR.out _ rfl).2; simp only at *; omega
    have k0 := cellB b24 K0.out
    have k1 := cellB b24 K1.out
    have k2 := cellB b24 K2.out
    have k3 := cellB b24 K3.out
    obtain ⟨fbk, hfb⟩ : ∃ fbk, fbk = w3.heap.size := ⟨_, rfl⟩
    rw [← hfb] at q0 q1 q2 QO4 hq3 ⊢
    clear b3 qb qo b24 sB lB hfb
    have hcb := r2burns_any (w := w4) (room := room) (dark := false) (A := A) (n := n) (c := c) hf
    go_wp2_with fail
    refine hcb.mono ?_; rintro x w5 ⟨rfl, b5⟩
    have B5 := Lib.hid (B4.out.trans (b5.mono B4.out.size))
    have OR5 := Lib.hid (Own.below OR4.out b5)
    have QO5 := Lib.hid (Own.below QO4.out b5)
    clear hcb q0 q1 q2 k0 k1 k2 k3
    by_cases hz : fuse = 0
    · subst hz
      have HV := Lib.hid (show burnI 0 false = (-1, true, 15) by unfold burnI; rw [if_neg (by omega), if_pos rfl])
      rw [HV.out]
      simp only
      have q0 := box_cellsR w5 [.int .i64 room, .slice A n c, .int .i64 (-1), .bool true] 30 0 _ rfl
      have q1 := box_cellsR w5 [.int .i64 room, .slice A n c, .int .i64 (-1), .bool true] 30 1 _ rfl
      have q2 := box_cellsR w5 [.int .i64 room, .slice A n c, .int .i64 (-1), .bool true] 30 2 _ rfl
      have q3 := box_cellsR w5 [.int .i64 room, .slice A n c, .int .i64 (-1), .bool true] 30 3 _ rfl
      have qb := below_alloc1 w5 (.cells #[.int .i64 room, .slice A n c, .int .i64 (-1), .bool true] 30)
      have qo := new_own w5 [.int .i64 room, .slice A n c, .int .i64 (-1), .bool true] 30 4 rfl (by unfold maxLen; omega)
      go_upto_region 5 with fail
      obtain ⟨w6, hw6⟩ : ∃ w6, w6 = w5.alloc (.cells #[.int .i64 room, .slice A n c, .int .i64 (-1), .bool true] 30) := ⟨_, rfl⟩
      have hTw6 : (w5.alloc (.cells [.int .i64 room, .slice A n c, .int .i64 (-1), .bool true].toArray 30)) = w6 := hw6.symm
      rw [hTw6] at q0 q1 q2 q3 qo
      rw [← hw6] at qb ⊢
      clear hTw6 hw6
      have B6 := Lib.hid (B5.out.trans (qb.mono B5.out.size))
      have OR6 := Lib.hid (Own.below OR5.out qb)
      clear qb qo
      have f0 := World.ownsRow.frozenAt OR6.out 0
      have f1 := World.ownsRow.frozenAt OR6.out 1
      have f2 := World.ownsRow.frozenAt OR6.out 2
      have f3 := World.ownsRow.frozenAt OR6.out 3
      have m0 := World.ownsRow.cellAt OR6.out 0 (by omega)
      have m1 := World.ownsRow.cellAt OR6.out 1 (by omega)
      have m2 := World.ownsRow.cellAt OR6.out 2 (by omega)
      have m3 := World.ownsRow.cellAt OR6.out 3 (by omega)
      simp only [List.getElem?_cons_zero, List.getElem?_cons_succ] at m0 m1 m2 m3
      have Hst := Lib.hid (stored4R OR6.out (.int .i64 room) (.slice A n c) (.int .i64 (-1)) (.bool true))
      go_wp2_with fail
      refine bodyPost_ret (results_cell1R rfl _ _ _ ⟨w.heap.size + 1, 0, none⟩ rfl _ (load_own2D Hst.out.1)) rfl ?_
      rw [HE.out]
      exact ⟨A, n, c, es, rfl, R2.kept (held_of_own OR6.out) (HS0.out.below B6.out) Hst.out.2, rfl, wrote2 B6.out Hst.out.2 (by omega)⟩
    · obtain ⟨fu, hfu⟩ : ∃ fu, fu = (if 0 < fuse then fuse - 1 else fuse) := ⟨_, rfl⟩
      have HV := Lib.hid (show burnI fuse false = (fu, false, 0) by
        unfold burnI
        by_cases h5 : fuse < 0
        · rw [if_pos h5, hfu, if_neg (by omega)]
        · rw [if_neg h5, if_neg hz, hfu, if_pos (by omega)])
      have HD := Lib.hid (show ∀ fs', deedD ⟨room, fuse, false, es.map FE.f⟩ fs' = (0, ⟨room, fu, false, fs'⟩) from fun fs' => by unfold deedD; rw [if_neg hz, hfu])
      rw [HV.out]
      simp only
      clear hfu hz
      have q0 := box_cellsR w5 [.int .i64 room, .slice A n c, .int .i64 fu, .bool false] 30 0 _ rfl
      have q1 := box_cellsR w5 [.int .i64 room, .slice A n c, .int .i64 fu, .bool false] 30 1 _ rfl
      have q2 := box_cellsR w5 [.int .i64 room, .slice A n c, .int .i64 fu, .bool false] 30 2 _ rfl
      have q3 := box_cellsR w5 [.int .i64 room, .slice A n c, .int .i64 fu, .bool false] 30 3 _ rfl
      have qb := below_alloc1 w5 (.cells #[.int .i64 room, .slice A n c, .int .i64 fu, .bool false] 30)
      have qo := new_own w5 [.int .i64 room, .slice A n c, .int .i64 fu, .bool false] 30 4 rfl (by unfold maxLen; omega)
      go_upto_region 5 with fail
      obtain ⟨w6, hw6⟩ : ∃ w6, w6 = w5.alloc (.cells #[.int .i64 room, .slice A n c, .int .i64 fu, .bool false] 30) := ⟨_, rfl⟩
      have hTw6 : (w5.alloc (.cells [.int .i64 room, .slice A n c, .int .i64 fu, .bool false].toArray 30)) = w6 := hw6.symm
      rw [hTw6] at q0 q1 q2 q3 qo
      rw [← hw6] at qb ⊢
      clear hTw6 hw6
      have B6 := Lib.hid (B5.out.trans (qb.mono B5.out.size))
      have OR6 := Lib.hid (Own.below OR5.out qb)
      have QO6 := Lib.hid (Own.below QO5.out qb)
      have hbb := b5.trans (qb.mono b5.size)
      have SB6 := Lib.hid (SB4.out.below hbb)
      have LB6 := Lib.hid (show bytesV f.b ≠ [] → ∀ a, B = some a → a.block < w6.heap.size ∧ G a.block from fun hne a ha => ⟨Nat.lt_of_lt_of_le (LB4.out hne a ha).1 hbb.size, (LB4.out hne a ha).2⟩)
      have OQ6 := Lib.hid qo
      have Z1 := Lib.hid q1
      have hqz : w.heap.size + 2 < w5.heap.size := by have := (own_ltR QO5.out _ rfl).2; simp only at this; omega
      obtain ⟨nxt, hnx⟩ : ∃ nxt, nxt = w5.heap.size := ⟨_, rfl⟩
      rw [← hnx] at OQ6 Z1 hqz ⊢
      have HS6 := Lib.hid (HS0.out.below B6.out)
      have hw6s : nxt < w6.heap.size := by have := (own_ltR OQ6.out _ rfl).2; simpa using this
      clear b5 qb qo hbb q0 q1 q2 q3 hnx
      go_wp2_with fail
      go_loopw [10, 11] (fun s10 s11 wx => ∃ (k : Nat) (LA : Option Addr) (lc : Nat), k ≤ n ∧ s10 = .slice LA ((es.take k).filter (notE nm)).length lc ∧ s11 = .int .i64 (k : Int) ∧ Hid (Rw3 w6.heap.size wx LA ((es.take k).filter (notE nm)).length lc ((es.take k).filter (notE nm))) ∧ Hid (Below w6.heap.size w6 wx)) (fun _ iv _ => n - (intOf iv).toNat)
      case atStart => exact ⟨0, none, 0, by omega, rfl, rfl, Lib.hid (Rw3.nil _ _), Lib.hid (Below.refl _ _)⟩
      case round =>
        obtain ⟨k, LA, lc, hk, rfl, rfl, RL, HW⟩ := hrel
        have d1 := cellB HW.out Z1.out
        by_cases g1 : (k : Int) < (n : Int)
        · obtain ⟨e, he⟩ := get_some es k (by omega)
          have hss := HS6.out.sl.below HW.out
          obtain ⟨ad, rfl⟩ := slFE_addr hss he
          obtain ⟨y0, y1, y2⟩ := slFE_three hss he
          have hin : (0 : Int) ≤ (k : Int) ∧ (k : Int) < (n : Int) := by omega
          have FL := Lib.hid (filt_take (p := notE nm) he)
          have hkl := List.length_filter_le (notE nm) (es.take k)
          rw [List.length_take] at hkl
          obtain ⟨lows, hlows⟩ : ∃ lows, lows = (es.take k).filter (notE nm) := ⟨_, rfl⟩
          rw [← hlows] at RL FL hkl ⊢
          clear hss he hlows
          by_cases x1 : e.f.nm = nm
          · have HL := Lib.hid (show (es.take (k + 1)).filter (notE nm) = lows by rw [FL.out, if_neg (by simp [notE, x1]), List.append_nil])
            have p1 : (e.f.nm == nm) = true := by simpa using x1
            clear x1
            go_wp2_with fail
            go_roundw
            case rel => exact ⟨k + 1, LA, lc, by omega, by rw [HL.out], by go_num, by rw [HL.out]; exact RL, HW⟩
            case measure => simp [intOf]; omega
          · have p1 : (e.f.nm == nm) = false := by simpa using x1
            have HL := Lib.hid (show (es.take (k + 1)).filter (notE nm) = lows ++ [e] by rw [FL.out, if_pos (by simp [notE, x1])])
            have hsl := sl_lit3F wr (feC e) 82 1 rfl
            have hb7 := below_alloc1 wr (.cells #[.string (bstr e.f.nm), .slice e.A e.f.b.length e.c, .int .i64 e.f.safe] 82)
            have RL7 := Lib.hid (RL.out.below hb7)
            have HW7 := Lib.hid (HW.out.trans (hb7.mono HW.out.size))
            have hs7 := HW7.out.size
            have ha1 := RL7.out.app
            clear x1
            go_wp2_with (at_builtin; refine wpList_app _ rfl _ _ 28 rfl w6.heap.size 82 (.agg #[.string ⟨#[]⟩, .slice none 0 0, .int .i64 0]) 3 48 Tryz.underlying28 infoF2 rfl (by decide) LA lows.length lc (flatFE lows) rfl ha1 (some ⟨wr.heap.size, 0, none⟩) 1 1 (feC e) rfl hsl (oneF e) (by unfold maxLen; omega) (by omega) hs7 ?_; intro A8 c8 w8 hat)
            rw [flat_app] at hat
            have hlen : (lows ++ [e]).length = lows.length + 1 := by simp
            have G1 := Lib.hid (RL7.out.grow hat (by simp) hs7)
            have HW8 := Lib.hid (HW7.out.trans (RL7.out.grownB hat hs7))
            clear hat ha1 hsl hb7
            go_wp2_with fail
            go_roundw
            case rel => exact ⟨k + 1, A8, c8, by omega, by rw [HL.out, hlen], by go_num, by rw [HL.out, hlen]; exact G1, HW8⟩
            case measure => simp [intOf]; omega
        · obtain rfl : k = n := by omega
          have htk : es.take k = es := List.take_of_length_le (by omega)
          rw [htk] at RL ⊢
          obtain ⟨ls, hls⟩ : ∃ ls, ls = es.filter (notE nm) := ⟨_, rfl⟩
          have HLS := Lib.hid hls
          have HSub := Lib.hid (show ∀ e, e ∈ ls → e ∈ es by intro e he; rw [hls] at he; exact (List.mem_filter.1 he).1)
          obtain ⟨N7, hN7⟩ : ∃ N7, N7 = ls.length := ⟨_, rfl⟩
          rw [← hls] at RL ⊢
          rw [← hN7] at RL ⊢
          clear hls htk
          have HN7 := Lib.hid hN7
          clear hN7
          have OQ7 := Lib.hid (Own.below OQ6.out HW.out)
          have OR7 := Lib.hid (Own.below OR6.out HW.out)
          have b1 := World.ownsRow.stored OQ7.out 1 (.slice LA N7 lc)
          have hor := OR7.out.apart b1.2 (by omega)
          have HGr := Lib.hid b1.2
          have OR8 := Lib.hid hor
          have z0 := World.ownsRow.cellAt OQ7.out 0 (by omega)
          have z1 := World.ownsRow.cellAt OQ7.out 1 (by omega)
          have z2 := World.ownsRow.cellAt OQ7.out 2 (by omega)
          have z3 := World.ownsRow.cellAt OQ7.out 3 (by omega)
          have g1x := World.ownsRow.frozenAt OQ7.out 1
          have f0 := World.ownsRow.frozenAt OR7.out 0
          have f1 := World.ownsRow.frozenAt OR7.out 1
          have f2 := World.ownsRow.frozenAt OR7.out 2
          have f3 := World.ownsRow.frozenAt OR7.out 3
          have m0 := World.ownsRow.cellAt OR7.out 0 (by omega)
          have m1 := World.ownsRow.cellAt OR7.out 1 (by omega)
          have m2 := World.ownsRow.cellAt OR7.out 2 (by omega)
          have m3 := World.ownsRow.cellAt OR7.out 3 (by omega)
          simp only [List.getElem?_cons_zero, List.getElem?_cons_succ] at m0 m1 m2 m3 z0 z1 z2 z3
          have Hst := Lib.hid (stored4R OR8.out (.int .i64 room) (.slice LA N7 lc) (.int .i64 fu) (.bool false))
          clear b1 hor d1
          go_wp2_with fail
          refine bodyPost_ret (results_cell1R rfl _ _ _ ⟨w.heap.size + 1, 0, none⟩ rfl _ (load_own2D Hst.out.1)) rfl ?_
          have hfin : Below w.heap.size w _ := wrote2 (wrote2 (B6.out.trans (HW.out.mono B6.out.size)) HGr.out (by omega)) Hst.out.2 (by omega)
          have hks : ∀ a, LA = some a → ∀ q, q < w6.heap.size → a.block ≠ q := fun a ha q hq => by have := (RL.out.lies a ha).1; omega
          have hsx := B6.out.size
          rw [HE.out, HD.out]
          refine ⟨LA, N7, lc, ls, rfl, ⟨sl_same RL.out.app.sl (fun a ha => (Hst.out.2.block _ (Nat.lt_of_lt_of_le (RL.out.lies a ha).2 HGr.out.size) (fun e => hks a ha (w.heap.size + 1) (by omega) (Option.some.inj e))).trans (HGr.out.block _ (RL.out.lies a ha).2 (fun e => hks a ha nxt hw6s (Option.some.inj e)))), fun _ a ha => ⟨Nat.lt_of_lt_of_le (RL.out.lies a ha).2 (Nat.le_trans HGr.out.size Hst.out.2.size), HG.out _ (by have := (RL.out.lies a ha).1; omega)⟩, fun e he => (HS0.out.below hfin).ok e (HSub.out e he)⟩, by rw [HLS.out], hfin⟩
  · obtain ⟨B, d, rfl, b3⟩ := asked_no hx hak h0
    have HE := Lib.hid (show removeD ⟨room, fuse, dark, es.map FE.f⟩ nm = (ak, ⟨room, fuse, dark, es.map FE.f⟩) by
      unfold removeD ofD
      unfold askF at hak
      cases dark with
      | true => rw [if_pos rfl] at hak; rw [if_pos rfl, hak]
      | false =>
        rw [if_neg (by simp)] at hak
        rw [if_neg (by simp)]
        cases ht : thereF (es.map FE.f) nm with
        | true => rw [if_pos ht] at hak; exact absurd hak.symm h0
        | false =>
          rw [if_neg (by rw [ht]; simp)] at hak
          simp only [ht, hak])
    have q0 := box_cellsR w3 [.string ⟨#[]⟩, .slice B 0 d, .int .i64 0] 82 0 _ rfl
    have q1 := box_cellsR w3 [.string ⟨#[]⟩, .slice B 0 d, .int .i64 0] 82 1 _ rfl
    have q2 := box_cellsR w3 [.string ⟨#[]⟩, .slice B 0 d, .int .i64 0] 82 2 _ rfl
    have qb := below_alloc1 w3 (.cells #[.string ⟨#[]⟩, .slice B 0 d, .int .i64 0] 82)
    have qo := new_own w3 [.string ⟨#[]⟩, .slice B 0 d, .int .i64 0] 82 3 rfl (by unfold maxLen; omega)
    go_upto_region 2 with fail
    obtain ⟨w4, hw4⟩ : ∃ w4, w4 = w3.alloc (.cells #[.string ⟨#[]⟩, .slice B 0 d, .int .i64 0] 82) := ⟨_, rfl⟩
    have hTw4 : (w3.alloc (.cells [.string ⟨#[]⟩, .slice B 0 d, .int .i64 0].toArray 82)) = w4 := hw4.symm
    rw [hTw4] at q0 q1 q2 qo
    rw [← hw4] at qb ⊢
    clear hTw4 hw4
    have b24 := b3.trans (qb.mono b3.size)
    have B4 := Lib.hid (HB.out.trans (b24.mono HB.out.size))
    have OR4 := Lib.hid (Own.below OR.out b24)
    have k0 := cellB b24 K0.out
    have k1 := cellB b24 K1.out
    have k2 := cellB b24 K2.out
    have k3 := cellB b24 K3.out
    have h02 : (ak == 0) = false := by simpa using h0
    clear b3 qb qo b24 hx
    have f0 := World.ownsRow.frozenAt OR4.out 0
    have f1 := World.ownsRow.frozenAt OR4.out 1
    have f2 := World.ownsRow.frozenAt OR4.out 2
    have f3 := World.ownsRow.frozenAt OR4.out 3
    have m0 := World.ownsRow.cellAt OR4.out 0 (by omega)
    have m1 := World.ownsRow.cellAt OR4.out 1 (by omega)
    have m2 := World.ownsRow.cellAt OR4.out 2 (by omega)
    have m3 := World.ownsRow.cellAt OR4.out 3 (by omega)
    simp only [List.getElem?_cons_zero, List.getElem?_cons_succ] at m0 m1 m2 m3
    have Hst := Lib.hid (stored4R OR4.out (.int .i64 room) (.slice A n c) (.int .i64 fuse) (.bool dark))
    go_wp2_with fail
    refine bodyPost_ret (results_cell1R rfl _ _ _ ⟨w.heap.size + 1, 0, none⟩ rfl _ (load_own2D Hst.out.1)) rfl ?_
    rw [HE.out]
    exact ⟨A, n, c, es, rfl, R2.kept (held_of_own OR4.out) (HS0.out.below B4.out) Hst.out.2, rfl, wrote2 B4.out Hst.out.2 (by omega)⟩
end
end Go.Proofs.YtemegkapmgcffaaGreat
