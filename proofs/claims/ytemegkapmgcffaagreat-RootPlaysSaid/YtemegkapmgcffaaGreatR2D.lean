import Derived.Test.YtemegkapmgcffaaGreatPureR2
/- The document's disk, by value: its calls (printed by wip/gen/gr2d.py). -/
namespace Go.Proofs.YtemegkapmgcffaaGreat
open Go.RowKit
set_option linter.unusedSimpArgs false
set_option linter.unusedVariables false

theorem sl_keptV {w w' : World} {q size n c : Nat} {t : TypeId} {A : Option Addr} {cs vs : List Value} (h : w.heap[q]? = some (.cells cs.toArray t)) (hs : Sl w size A n c vs) (hv : ∀ v, vs[0]? = some v → v ∉ cs) (hg : w.grownBy w' (some q)) : Sl w' size A n c vs := by
  cases vs with
  | nil => exact ⟨fun j u hj => by simp at hj, hs.len, hs.le, hs.none⟩
  | cons v r =>
    obtain ⟨ad, h6, h7⟩ := hs.cells 0 v rfl
    have h8 := World.block_lt_of_cell? _ _ h7
    rw [add_block] at h8
    refine sl_same hs (fun a ha => hg.block _ (by rw [ha] at h6; cases h6; exact h8) (fun e => ?_))
    rcases a with ⟨bk, off, spot⟩
    rw [ha] at h6
    cases h6
    have e2 := Option.some.inj e
    simp only at e2
    subst e2
    simp [World.cell?, Addr.add, h] at h7
    exact hv v rfl (List.mem_of_getElem? h7.2)
theorem byte_not {x : List UInt8} {v : Value} (h : (bytesV x)[0]? = some v) : ∃ y : UInt8, v = byteV y := by
  cases x with
  | nil => cases h
  | cons y r => exact ⟨y, by simpa [bytesV] using h.symm⟩
theorem R2.kept {G : Nat → Prop} {w w' : World} {q : Nat} {t : TypeId} {a b : Int} {B : Option Addr} {k d : Nat} {z : Bool} {A : Option Addr} {n c : Nat} {es : List FE} (h : w.heap[q]? = some (.cells [.int .i64 a, .slice B k d, .int .i64 b, .bool z].toArray t)) (hr : R2 G w A n c es) (hg : w.grownBy w' (some q)) : R2 G w' A n c es :=
  ⟨sl_keptV h hr.sl (fun v hv => by
    cases es with
    | nil => cases hv
    | cons e r =>
      have : v = .string (bstr e.f.nm) := by simpa [flatFE, feC] using hv.symm
      subst this
      simp) hg, fun hne a ha => ⟨Nat.lt_of_lt_of_le (hr.lies hne a ha).1 hg.size, (hr.lies hne a ha).2⟩, fun e he => ⟨sl_keptV h (hr.ok e he).1 (fun v hv => by
      obtain ⟨y, rfl⟩ := byte_not hv
      simp [byteV]) hg, fun hne a ha => ⟨Nat.lt_of_lt_of_le ((hr.ok e he).2 hne a ha).1 hg.size, ((hr.ok e he).2 hne a ha).2⟩⟩⟩
/-- what a call of the document's disk tells -/
def R2P (G : Nat → Prop) (w : World) (R : Int × Dk) (x : Ending) (w' : World) : Prop :=
  ∃ A' n' c' es', x = .returned (.tuple #[.agg #[.int .i64 R.2.room, .slice A' n' c', .int .i64 R.2.fuse, .bool R.2.dark], .int .i64 R.1]) ∧ R2 G w' A' n' c' es' ∧ es'.map FE.f = R.2.fs ∧ Below w.heap.size w w'
theorem asked_no {G : Nat → Prop} {w w' : World} {fs : List Fl} {dark : Bool} {nm : Nm} {x : Ending} {e : Int} (h : AskedP G w fs dark nm x w') (he : askF fs dark nm = e) (h0 : e ≠ 0) : ∃ B d, x = .returned (.tuple #[.agg #[.string ⟨#[]⟩, .slice B 0 d, .int .i64 0], .int .i64 e]) ∧ Below w.heap.size w w' := by
  obtain ⟨B, d, h1, h2, h3, h4⟩ := h
  rw [he] at h1
  simp only [if_neg h0] at h1
  exact ⟨B, d, h1, h4⟩
theorem asked_yes {G : Nat → Prop} {w w' : World} {fs : List Fl} {dark : Bool} {nm : Nm} {x : Ending} {f : Fl} (h : AskedP G w fs dark nm x w') (he : askF fs dark nm = 0) (hf : lookF fs nm = f) : ∃ B d, x = .returned (.tuple #[.agg #[.string (bstr nm), .slice B f.b.length d, .int .i64 f.safe], .int .i64 0]) ∧ Sl w' 1 B f.b.length d (bytesV f.b) ∧ (bytesV f.b ≠ [] → ∀ a, B = some a → a.block < w'.heap.size ∧ G a.block) ∧ Below w.heap.size w w' := by
  obtain ⟨B, d, h1, h2, h3, h4⟩ := h
  rw [he, hf] at h1
  rw [he, hf] at h2 h3
  simp only [if_true] at h1 h2 h3
  exact ⟨B, d, h1, h2, h3, h4⟩
section
variable {w : World} {room fuse : Int} {dark : Bool} {A : Option Addr} {n c : Nat} {es : List FE}
set_option maxRecDepth 100000 in
set_option maxHeartbeats 16000000 in
theorem r2Sync_any {G : Nat → Prop} (hG : ∀ q, w.heap.size ≤ q → G q) (hs : R2 G w A n c es) (hso : SrtF (es.map FE.f)) (hn : n ≤ 1000) (hf : -9223372036854775808 ≤ fuse ∧ fuse ≤ 9223372036854775807) (nm : Nm) :
    Calls Tryz.prog 31 #[.agg #[.int .i64 room, .slice A n c, .int .i64 fuse, .bool dark], .string (bstr nm)] w (R2P G w (syncD ⟨room, fuse, dark, es.map FE.f⟩ nm)) := by
  have hb1 := below_alloc1 w (.cells #[.int .i64 room, .slice A n c, .int .i64 fuse, .bool dark] 30)
  have k0 := box_cellsR w [.int .i64 room, .slice A n c, .int .i64 fuse, .bool dark] 30 0 _ rfl
  have k1 := box_cellsR w [.int .i64 room, .slice A n c, .int .i64 fuse, .bool dark] 30 1 _ rfl
  have k2 := box_cellsR w [.int .i64 room, .slice A n c, .int .i64 fuse, .bool dark] 30 2 _ rfl
  have k3 := box_cellsR w [.int .i64 room, .slice A n c, .int .i64 fuse, .bool dark] 30 3 _ rfl
  have ob := new_own w [.int .i64 room, .slice A n c, .int .i64 fuse, .bool dark] 30 4 rfl (by unfold maxLen; omega)
  obtain ⟨w1, hw1⟩ : ∃ w1, w1 = w.alloc (.cells #[.int .i64 room, .slice A n c, .int .i64 fuse, .bool dark] 30) := ⟨_, rfl⟩
  have hT1 : (w.alloc (.cells [.int .i64 room, .slice A n c, .int .i64 fuse, .bool dark].toArray 30)) = w1 := hw1.symm
  rw [hT1] at k0 k1 k2 k3 ob
  rw [← hw1] at hb1
  have hz1 : w1.heap.size = w.heap.size + 1 := by rw [hw1]; simp
  have hb2 := below_alloc1 w1 (.cells #[.int .i64 0, .slice none 0 0, .int .i64 0, .bool false] 30)
  have orr := new_own w1 [.int .i64 0, .slice none 0 0, .int .i64 0, .bool false] 30 4 rfl (by unfold maxLen; omega)
  obtain ⟨w2, hw2⟩ : ∃ w2, w2 = w1.alloc (.cells #[.int .i64 0, .slice none 0 0, .int .i64 0, .bool false] 30) := ⟨_, rfl⟩
  have hT2 : (w1.alloc (.cells [.int .i64 0, .slice none 0 0, .int .i64 0, .bool false].toArray 30)) = w2 := hw2.symm
  rw [hT2, hz1] at orr
  rw [← hw2] at hb2
  have eW : (w.alloc (.cells #[.int .i64 room, .slice A n c, .int .i64 fuse, .bool dark] 30)).alloc (.cells #[.int .i64 0, .slice none 0 0, .int .i64 0, .bool false] 30) = w2 := by rw [hw2, hw1]
  have k0 := cellB hb2 k0
  have k1 := cellB hb2 k1
  have k2 := cellB hb2 k2
  have k3 := cellB hb2 k3
  have OB := Lib.hid (Own.below ob hb2)
  have OR := Lib.hid (Own.lower orr (show w.heap.size ≤ w.heap.size + 1 by omega))
  have HB := Lib.hid (hb1.trans (hb2.mono hb1.size))
  clear hb1 hb2 hw1 hw2 hT1 hT2 hz1 ob orr
  have hln := slFE_len hs.sl
  have HS0 := Lib.hid hs
  have HS := Lib.hid (hs.below HB.out)
  have HSO := Lib.hid hso
  have HG := Lib.hid hG
  have K0 := Lib.hid k0
  have K1 := Lib.hid k1
  have K2 := Lib.hid k2
  have K3 := Lib.hid k3
  have hc := r2asked_any (room := room) (fuse := fuse) (dark := dark) HS.out HSO.out (by omega) nm
  clear hs hso hG
  go_enter Tryz.func31, Tryz.ntmps31
  go_upto_region 1 with fail
  clear eW
  go_wp2_with fail
  refine hc.mono ?_; intro x w3 hx
  clear hc k0 k1 k2 k3
  obtain ⟨ak, hak⟩ : ∃ ak, askF (es.map FE.f) dark nm = ak := ⟨_, rfl⟩
  by_cases h0 : ak = 0
  · subst h0
    have hdk : dark = false := by
      cases dark with
      | false => rfl
      | true => unfold askF at hak; rw [if_pos rfl] at hak; cases hak
    subst hdk
    have ht : thereF (es.map FE.f) nm = true := by
      cases ht : thereF (es.map FE.f) nm with
      | true => rfl
      | false => unfold askF at hak; rw [if_neg (by simp), if_neg (by rw [ht]; simp)] at hak; cases hak
    obtain ⟨f, hff, hfn⟩ := there_true ht
    have hlk : lookF (es.map FE.f) nm = f := by unfold lookF; rw [ht, hff]
    obtain ⟨B, d, rfl, sB, lB, b3⟩ := asked_yes hx hak hlk
    have HE := Lib.hid (show syncD ⟨room, fuse, false, es.map FE.f⟩ nm = deedD ⟨room, fuse, false, es.map FE.f⟩ (putF (es.map FE.f) ⟨nm, f.b, f.b.length⟩ nm) by
      unfold syncD ofD
      rw [if_neg (by simp)]
      simp only [ht, hff]
      rw [if_neg (by simp), putF_set HSO.out ht _ rfl, hfn])
    clear hx hlk hff ht hak
    have q0 := box_cellsR w3 [.string (bstr nm), .slice B f.b.length d, .int .i64 f.safe] 82 0 _ rfl
    have q1 := box_cellsR w3 [.string (bstr nm), .slice B f.b.length d, .int .i64 f.safe] 82 1 _ rfl
    have q2 := box_cellsR w3 [.string (bstr nm), .slice B f.b.length d, .int .i64 f.safe] 82 2 _ rfl
    have qb := below_alloc1 w3 (.cells #[.string (bstr nm), .slice B f.b.length d, .int .i64 f.safe] 82)
    have qo := new_own w3 [.string (bstr nm), .slice B f.b.length d, .int .i64 f.safe] 82 3 rfl (by unfold maxLen; omega)
    go_upto_region 2 with fail
    obtain ⟨w4, hw4⟩ : ∃ w4, w4 = w3.alloc (.cells #[.string (bstr nm), .slice B f.b.length d, .int .i64 f.safe] 82) := ⟨_, rfl⟩
    have hTw4 : (w3.alloc (.cells [.string (bstr nm), .slice B f.b.length d, .int .i64 f.safe].toArray 82)) = w4 := hw4.symm
    rw [hTw4] at q0 q1 q2 qo
    rw [← hw4] at qb ⊢
    clear hTw4 hw4
    have b24 := b3.trans (qb.mono b3.size)
    have B4 := Lib.hid (HB.out.trans (b24.mono HB.out.size))
    have OR4 := Lib.hid (Own.below OR.out b24)
    have SB4 := Lib.hid (sB.below qb)
    have LB4 := Lib.hid (show bytesV f.b ≠ [] → ∀ a, B = some a → a.block < w4.heap.size ∧ G a.block from fun hne a ha => ⟨Nat.lt_of_lt_of_le (lB hne a ha).1 qb.size, (lB hne a ha).2⟩)
    have QO4 := Lib.hid qo
    have hq3 : w.heap.size + 2 ≤ w3.heap.size := by have := b3.size; have := HB.out.size; have := (own_ltR OR.out _ rfl).2; simp only at *; omega
    have k0 := cellB b24 K0.out
    have k1 := cellB b24 K1.out
    have k2 := cellB b24 K2.out
    have k3 := cellB b24 K3.out
    obtain ⟨fbk, hfb⟩ : ∃ fbk, fbk = w3.heap.size := ⟨_, rfl⟩
    rw [← hfb] at q0 q1 q2 QO4 hq3 ⊢
    clear b3 qb qo b24 sB lB hfb
    have hcb := r2burns_any (w := w4) (room := room) (dark := false) (A := A) (n := n) (c := c) hf
    go_wp2_with fail
    refine hcb.mono ?_; rintro x w5 ⟨rfl, b5⟩
    have B5 := Lib.hid (B4.out.trans (b5.mono B4.out.size))
    have OR5 := Lib.hid (Own.below OR4.out b5)
    have QO5 := Lib.hid (Own.below QO4.out b5)
    clear hcb q0 q1 q2 k0 k1 k2 k3
    by_cases hz : fuse = 0
    · subst hz
      have HV := Lib.hid (show burnI 0 false = (-1, true, 15) by unfold burnI; rw [if_neg (by omega), if_pos rfl])
      rw [HV.out]
      simp only
      have q0 := box_cellsR w5 [.int .i64 room, .slice A n c, .int .i64 (-1), .bool true] 30 0 _ rfl
      have q1 := box_cellsR w5 [.int .i64 room, .slice A n c, .int .i64 (-1), .bool true] 30 1 _ rfl
      have q2 := box_cellsR w5 [.int .i64 room, .slice A n c, .int .i64 (-1), .bool true] 30 2 _ rfl
      have q3 := box_cellsR w5 [.int .i64 room, .slice A n c, .int .i64 (-1), .bool true] 30 3 _ rfl
      have qb := below_alloc1 w5 (.cells #[.int .i64 room, .slice A n c, .int .i64 (-1), .bool true] 30)
      have qo := new_own w5 [.int .i64 room, .slice A n c, .int .i64 (-1), .bool true] 30 4 rfl (by unfold maxLen; omega)
      go_upto_region 5 with fail
      obtain ⟨w6, hw6⟩ : ∃ w6, w6 = w5.alloc (.cells #[.int .i64 room, .slice A n c, .int .i64 (-1), .bool true] 30) := ⟨_, rfl⟩
      have hTw6 : (w5.alloc (.cells [.int .i64 room, .slice A n c, .int .i64 (-1), .bool true].toArray 30)) = w6 := hw6.symm
      rw [hTw6] at q0 q1 q2 q3 qo
      rw [← hw6] at qb ⊢
      clear hTw6 hw6
      have B6 := Lib.hid (B5.out.trans (qb.mono B5.out.size))
      have OR6 := Lib.hid (Own.below OR5.out qb)
      clear qb qo
      have f0 := World.ownsRow.frozenAt OR6.out 0
      have f1 := World.ownsRow.frozenAt OR6.out 1
      have f2 := World.ownsRow.frozenAt OR6.out 2
      have f3 := World.ownsRow.frozenAt OR6.out 3
      have m0 := World.ownsRow.cellAt OR6.out 0 (by omega)
      have m1 := World.ownsRow.cellAt OR6.out 1 (by omega)
      have m2 := World.ownsRow.cellAt OR6.out 2 (by omega)
      have m3 := World.ownsRow.cellAt OR6.out 3 (by omega)
      simp only [List.getElem?_cons_zero, List.getElem?_cons_succ] at m0 m1 m2 m3
      have Hst := Lib.hid (stored4R OR6.out (.int .i64 room) (.slice A n c) (.int .i64 (-1)) (.bool true))
      go_wp2_with fail
      refine bodyPost_ret (results_cell1R rfl _ _ _ ⟨w.heap.size + 1, 0, none⟩ rfl _ (load_own2D Hst.out.1)) rfl ?_
      rw [HE.out]
      exact ⟨A, n, c, es, rfl, R2.kept (held_of_own OR6.out) (HS0.out.below B6.out) Hst.out.2, rfl, wrote2 B6.out Hst.out.2 (by omega)⟩
    · obtain ⟨fu, hfu⟩ : ∃ fu, fu = (if 0 < fuse then fuse - 1 else fuse) := ⟨_, rfl⟩
      have HV := Lib.hid (show burnI fuse false = (fu, false, 0) by
        unfold burnI
        by_cases h5 : fuse < 0
        · rw [if_pos h5, hfu, if_neg (by omega)]
        · rw [if_neg h5, if_neg hz, hfu, if_pos (by omega)])
      have HD := Lib.hid (show ∀ fs', deedD ⟨room, fuse, false, es.map FE.f⟩ fs' = (0, ⟨room, fu, false, fs'⟩) from fun fs' => by unfold deedD; rw [if_neg hz, hfu])
      rw [HV.out]
      simp only
      clear hfu hz
      have q0 := box_cellsR w5 [.int .i64 room, .slice A n c, .int .i64 fu, .bool false] 30 0 _ rfl
      have q1 := box_cellsR w5 [.int .i64 room, .slice A n c, .int .i64 fu, .bool false] 30 1 _ rfl
      have q2 := box_cellsR w5 [.int .i64 room, .slice A n c, .int .i64 fu, .bool false] 30 2 _ rfl
      have q3 := box_cellsR w5 [.int .i64 room, .slice A n c, .int .i64 fu, .bool false] 30 3 _ rfl
      have qb := below_alloc1 w5 (.cells #[.int .i64 room, .slice A n c, .int .i64 fu, .bool false] 30)
      have qo := new_own w5 [.int .i64 room, .slice A n c, .int .i64 fu, .bool false] 30 4 rfl (by unfold maxLen; omega)
      go_upto_region 5 with fail
      obtain ⟨w6, hw6⟩ : ∃ w6, w6 = w5.alloc (.cells #[.int .i64 room, .slice A n c, .int .i64 fu, .bool false] 30) := ⟨_, rfl⟩
      have hTw6 : (w5.alloc (.cells [.int .i64 room, .slice A n c, .int .i64 fu, .bool false].toArray 30)) = w6 := hw6.symm
      rw [hTw6] at q0 q1 q2 q3 qo
      rw [← hw6] at qb ⊢
      clear hTw6 hw6
      have B6 := Lib.hid (B5.out.trans (qb.mono B5.out.size))
      have OR6 := Lib.hid (Own.below OR5.out qb)
      have QO6 := Lib.hid (Own.below QO5.out qb)
      have hbb := b5.trans (qb.mono b5.size)
      have SB6 := Lib.hid (SB4.out.below hbb)
      have LB6 := Lib.hid (show bytesV f.b ≠ [] → ∀ a, B = some a → a.block < w6.heap.size ∧ G a.block from fun hne a ha => ⟨Nat.lt_of_lt_of_le (LB4.out hne a ha).1 hbb.size, (LB4.out hne a ha).2⟩)
      have st := World.ownsRow.stored QO6.out 2 (.int .i64 (f.b.length : Int))
      have j1 := World.ownsRow.cellAt QO6.out 1 (by omega)
      have j0 := World.ownsRow.cellAt QO6.out 0 (by omega)
      have j2 := World.ownsRow.cellAt QO6.out 2 (by omega)
      simp only [List.getElem?_cons_zero, List.getElem?_cons_succ] at j0 j1 j2
      have i2 := World.ownsRow.frozenAt QO6.out 2
      obtain ⟨w7, hw7⟩ : ∃ w7, w7 = w6.setCell ⟨fbk, 2, none⟩ (.int .i64 (f.b.length : Int)) := ⟨_, rfl⟩
      rw [← hw7] at st
      have ST := Lib.hid st
      have B7 := Lib.hid (wrote2 B6.out st.2 (by omega))
      have OR7 := Lib.hid (Own.apart OR6.out st.2 (by omega))
      have x0 := World.ownsRow.cellAt st.1 0 (by omega)
      have x1 := World.ownsRow.cellAt st.1 1 (by omega)
      have x2 := World.ownsRow.cellAt st.1 2 (by omega)
      simp only [List.set_cons_zero, List.set_cons_succ, List.getElem?_cons_zero, List.getElem?_cons_succ] at x0 x1 x2
      have hqlt : w5.heap.size ≠ fbk := by have := (own_ltR QO5.out _ rfl).2; simp only at this; omega
      have z0 := cellG st.2 q0 hqlt
      have z1 := cellG st.2 q1 hqlt
      have z2 := cellG st.2 q2 hqlt
      have z3 := cellG st.2 q3 hqlt
      have SB7 := Lib.hid (sl_keptV (held_of_own QO6.out) SB6.out (fun v hv => by obtain ⟨y, rfl⟩ := byte_not hv; simp [byteV]) st.2)
      have LB7 := Lib.hid (show bytesV f.b ≠ [] → ∀ a, B = some a → a.block < w7.heap.size ∧ G a.block from fun hne a ha => ⟨Nat.lt_of_lt_of_le (LB6.out hne a ha).1 st.2.size, (LB6.out hne a ha).2⟩)
      have hcp := r2put_any (w := w7) (room := room) (fuse := fu) (dark := false) (G := G) (fun q hq => HG.out q (by have := B7.out.size; omega)) (HS0.out.below B7.out) hn nm nm B f.b d f.b.length SB7.out LB7.out
      clear st b5 qb qo hbb q0 q1 q2 q3
      go_upto_region 8 with fail
      rw [← hw7]
      clear hw7 j0 j1 j2 i2
      go_wp2_with fail
      refine hcp.mono ?_; rintro x w8 ⟨A8, c8, rfl, r8, b8⟩
      have B8 := Lib.hid (B7.out.trans (b8.mono B7.out.size))
      have OR8 := Lib.hid (Own.below OR7.out b8)
      have R8 := Lib.hid r8
      clear hcp x0 x1 x2 z0 z1 z2 z3 b8 r8
      have f0 := World.ownsRow.frozenAt OR8.out 0
      have f1 := World.ownsRow.frozenAt OR8.out 1
      have f2 := World.ownsRow.frozenAt OR8.out 2
      have f3 := World.ownsRow.frozenAt OR8.out 3
      have m0 := World.ownsRow.cellAt OR8.out 0 (by omega)
      have m1 := World.ownsRow.cellAt OR8.out 1 (by omega)
      have m2 := World.ownsRow.cellAt OR8.out 2 (by omega)
      have m3 := World.ownsRow.cellAt OR8.out 3 (by omega)
      simp only [List.getElem?_cons_zero, List.getElem?_cons_succ] at m0 m1 m2 m3
      have Hst := Lib.hid (stored4R OR8.out (.int .i64 room) (.slice A8 (putE es ⟨⟨nm, f.b, f.b.length⟩, B, d⟩ nm).length c8) (.int .i64 fu) (.bool false))
      go_wp2_with fail
      refine bodyPost_ret (results_cell1R rfl _ _ _ ⟨w.heap.size + 1, 0, none⟩ rfl _ (load_own2D Hst.out.1)) rfl ?_
      rw [HE.out, HD.out]
      exact ⟨A8, _, c8, _, rfl, R2.kept (held_of_own OR8.out) R8.out Hst.out.2, putE_map _ _ _, wrote2 B8.out Hst.out.2 (by omega)⟩
  · obtain ⟨B, d, rfl, b3⟩ := asked_no hx hak h0
    have HE := Lib.hid (show syncD ⟨room, fuse, dark, es.map FE.f⟩ nm = (ak, ⟨room, fuse, dark, es.map FE.f⟩) by
      unfold syncD ofD
      unfold askF at hak
      cases dark with
      | true => rw [if_pos rfl] at hak; rw [if_pos rfl, hak]
      | false =>
        rw [if_neg (by simp)] at hak
        rw [if_neg (by simp)]
        cases ht : thereF (es.map FE.f) nm with
        | true => rw [if_pos ht] at hak; exact absurd hak.symm h0
        | false =>
          rw [if_neg (by rw [ht]; simp)] at hak
          simp only [ht, hak])
    have q0 := box_cellsR w3 [.string ⟨#[]⟩, .slice B 0 d, .int .i64 0] 82 0 _ rfl
    have q1 := box_cellsR w3 [.string ⟨#[]⟩, .slice B 0 d, .int .i64 0] 82 1 _ rfl
    have q2 := box_cellsR w3 [.string ⟨#[]⟩, .slice B 0 d, .int .i64 0] 82 2 _ rfl
    have qb := below_alloc1 w3 (.cells #[.string ⟨#[]⟩, .slice B 0 d, .int .i64 0] 82)
    have qo := new_own w3 [.string ⟨#[]⟩, .slice B 0 d, .int .i64 0] 82 3 rfl (by unfold maxLen; omega)
    go_upto_region 2 with fail
    obtain ⟨w4, hw4⟩ : ∃ w4, w4 = w3.alloc (.cells #[.string ⟨#[]⟩, .slice B 0 d, .int .i64 0] 82) := ⟨_, rfl⟩
    have hTw4 : (w3.alloc (.cells [.string ⟨#[]⟩, .slice B 0 d, .int .i64 0].toArray 82)) = w4 := hw4.symm
    rw [hTw4] at q0 q1 q2 qo
    rw [← hw4] at qb ⊢
    clear hTw4 hw4
    have b24 := b3.trans (qb.mono b3.size)
    have B4 := Lib.hid (HB.out.trans (b24.mono HB.out.size))
    have OR4 := Lib.hid (Own.below OR.out b24)
    have k0 := cellB b24 K0.out
    have k1 := cellB b24 K1.out
    have k2 := cellB b24 K2.out
    have k3 := cellB b24 K3.out
    have h02 : (ak == 0) = false := by simpa using h0
    clear b3 qb qo b24 hx
    have f0 := World.ownsRow.frozenAt OR4.out 0
    have f1 := World.ownsRow.frozenAt OR4.out 1
    have f2 := World.ownsRow.frozenAt OR4.out 2
    have f3 := World.ownsRow.frozenAt OR4.out 3
    have m0 := World.ownsRow.cellAt OR4.out 0 (by omega)
    have m1 := World.ownsRow.cellAt OR4.out 1 (by omega)
    have m2 := World.ownsRow.cellAt OR4.out 2 (by omega)
    have m3 := World.ownsRow.cellAt OR4.out 3 (by omega)
    simp only [List.getElem?_cons_zero, List.getElem?_cons_succ] at m0 m1 m2 m3
    have Hst := Lib.hid (stored4R OR4.out (.int .i64 room) (.slice A n c) (.int .i64 fuse) (.bool dark))
    go_wp2_with fail
    refine bodyPost_ret (results_cell1R rfl _ _ _ ⟨w.heap.size + 1, 0, none⟩ rfl _ (load_own2D Hst.out.1)) rfl ?_
    rw [HE.out]
    exact ⟨A, n, c, es, rfl, R2.kept (held_of_own OR4.out) (HS0.out.below B4.out) Hst.out.2, rfl, wrote2 B4.out Hst.out.2 (by omega)⟩
end
end Go.Proofs.YtemegkapmgcffaaGreat
