import Derived.Test.YtemegkapmgcffaaGreatRkN
import Derived.Test.YtemegkapmgcffaaGreatMDb
/- The document's disk, by value: Find, Used, burns, asked, text, number (printed by wip/gen/gr2a.py). -/
namespace Go.Proofs.YtemegkapmgcffaaGreat
open Go.RowKit
set_option linter.unusedSimpArgs false
set_option linter.unusedVariables false

/-- files of the document's disk, in memory that G allows -/
structure R2 (G : Nat → Prop) (w : World) (A : Option Addr) (n c : Nat) (es : List FE) : Prop where
  sl : Sl w 3 A n c (flatFE es)
  lies : es ≠ [] → ∀ a, A = some a → a.block < w.heap.size ∧ G a.block
  ok : ∀ e, e ∈ es → Sl w 1 e.A e.f.b.length e.c (bytesV e.f.b) ∧ (bytesV e.f.b ≠ [] → ∀ a, e.A = some a → a.block < w.heap.size ∧ G a.block)
theorem R2.below {G : Nat → Prop} {w w' : World} {A : Option Addr} {n c : Nat} {es : List FE} (h : R2 G w A n c es) (hb : Below w.heap.size w w') : R2 G w' A n c es :=
  ⟨h.sl.below hb, fun hne a ha => ⟨Nat.lt_of_lt_of_le (h.lies hne a ha).1 hb.size, (h.lies hne a ha).2⟩, fun e he => ⟨(h.ok e he).1.below hb, fun hne a ha => ⟨Nat.lt_of_lt_of_le ((h.ok e he).2 hne a ha).1 hb.size, ((h.ok e he).2 hne a ha).2⟩⟩⟩
theorem load_own2D {base r : Nat} {w : World} {cs : List Value} (h : Own base 30 1 w (some ⟨r, 0, none⟩) 4 4 cs) : (loadVar 30 ⟨r, 0, none⟩).run Tryz.prog w = .ok (.agg cs.toArray) w := by
  have hl : cs.length = 4 := by simpa using h.1
  exact run_loadVar_mid w r 0 30 cs _ (fun j v hj => by
    have hlt : j < 4 := by have := (List.getElem?_eq_some_iff.1 hj).1; omega
    have := World.ownsRow.cellAt h j (by omega)
    rw [Nat.zero_add, this, hj]) Tryz.underlying30 rfl (by rw [hl]; kernel_rfl)
theorem load_own2F {base r : Nat} {w : World} {cs : List Value} (h : Own base 82 1 w (some ⟨r, 0, none⟩) 3 3 cs) : (loadVar 82 ⟨r, 0, none⟩).run Tryz.prog w = .ok (.agg cs.toArray) w := by
  have hl : cs.length = 3 := by simpa using h.1
  exact run_loadVar_mid w r 0 82 cs _ (fun j v hj => by
    have hlt : j < 3 := by have := (List.getElem?_eq_some_iff.1 hj).1; omega
    have := World.ownsRow.cellAt h j (by omega)
    rw [Nat.zero_add, this, hj]) Tryz.underlying82 rfl (by rw [hl]; kernel_rfl)
theorem stored4R {base r : Nat} {t : TypeId} {w : World} {cs : List Value} (h : Own base t 1 w (some ⟨r, 0, none⟩) 4 4 cs) (v0 v1 v2 v3 : Value) :
    Own base t 1 ((((w.setCell ⟨r, 0, none⟩ v0).setCell ⟨r, 1, none⟩ v1).setCell ⟨r, 2, none⟩ v2).setCell ⟨r, 3, none⟩ v3) (some ⟨r, 0, none⟩) 4 4 [v0, v1, v2, v3] ∧
    w.grownBy ((((w.setCell ⟨r, 0, none⟩ v0).setCell ⟨r, 1, none⟩ v1).setCell ⟨r, 2, none⟩ v2).setCell ⟨r, 3, none⟩ v3) (some r) := by
  have hl : cs.length = 4 := by simpa using h.1
  obtain ⟨a, b, d, e, rfl⟩ : ∃ a b d e, cs = [a, b, d, e] := by
    match cs, hl with
    | [a, b, d, e], _ => exact ⟨a, b, d, e, rfl⟩
  have s1 := World.ownsRow.stored h 0 v0
  have s2 := World.ownsRow.stored s1.1 1 v1
  have s3 := World.ownsRow.stored s2.1 2 v2
  have s4 := World.ownsRow.stored s3.1 3 v3
  exact ⟨s4.1, s1.2.trans (s2.2.trans (s3.2.trans s4.2))⟩
theorem wrote2 {W w w' : World} {r : Nat} (hb : Below W.heap.size W w) (hg : w.grownBy w' (some r)) (hr : W.heap.size ≤ r) : Below W.heap.size W w' :=
  hb.grown hg hb.size (fun k hk => by cases hk; exact hr)
/-- a row of bytes lies in no block of a file's struct -/
theorem sl_keptF {w w' : World} {q : Nat} {s : ByteArray} {B : Option Addr} {k d : Nat} {z : Int} {t : TypeId} {A : Option Addr} {n c : Nat} {x : List UInt8} (h : w.heap[q]? = some (.cells [.string s, .slice B k d, .int .i64 z].toArray t)) (hs : Sl w 1 A n c (bytesV x)) (hg : w.grownBy w' (some q)) : Sl w' 1 A n c (bytesV x) := by
  by_cases h0 : bytesV x = []
  · rw [h0] at hs ⊢
    exact ⟨fun j u hj => by simp at hj, hs.len, hs.le, hs.none⟩
  · obtain ⟨v, r, hv⟩ := List.exists_cons_of_ne_nil h0
    obtain ⟨ad, h6, h7⟩ := hs.cells 0 v (by rw [hv]; rfl)
    have hx : ∃ y : UInt8, v = byteV y := by
      unfold bytesV at hv
      cases x with
      | nil => cases hv
      | cons y r => simp only [List.map_cons, List.cons.injEq] at hv; exact ⟨y, hv.1.symm⟩
    obtain ⟨y, rfl⟩ := hx
    have h8 := World.block_lt_of_cell? _ _ h7
    rw [add_block] at h8
    refine sl_same hs (fun a ha => hg.block _ (by rw [ha] at h6; cases h6; exact h8) (fun e => ?_))
    rcases a with ⟨bk, off, spot⟩
    rw [ha] at h6
    cases h6
    have e2 := Option.some.inj e
    simp only at e2
    subst e2
    simp [World.cell?, Addr.add, h] at h7
    have h9 := List.mem_of_getElem? h7.2
    simp [byteV] at h9
def findI (fs : List Fl) (nm : Nm) : Int := if thereF fs nm = true then (posF fs nm : Int) else -1
def findK (fs : List Fl) (nm : Nm) (k : Nat) : Int := if thereF fs nm = true ∧ posF fs nm < k then (posF fs nm : Int) else -1
theorem findK_hit {fs : List Fl} (hs : SrtF fs) {nm : Nm} {k : Nat} {f : Fl} (hf : fs[k]? = some f) (hn : f.nm = nm) : findK fs nm (k + 1) = (k : Int) := by
  obtain ⟨h1, h2⟩ := there_of hs hf hn
  unfold findK
  rw [h1, h2, if_pos ⟨rfl, by omega⟩]
theorem findK_miss {fs : List Fl} {nm : Nm} {k : Nat} {f : Fl} (hf : fs[k]? = some f) (hn : f.nm ≠ nm) : findK fs nm (k + 1) = findK fs nm k := by
  unfold findK
  by_cases h : thereF fs nm = true
  · obtain ⟨g, hg, hgn⟩ := there_true h
    have hne : posF fs nm ≠ k := fun e => by
      rw [e, hf] at hg
      cases hg
      exact hn hgn
    by_cases h2 : posF fs nm < k
    · rw [if_pos ⟨h, by omega⟩, if_pos ⟨h, h2⟩]
    · rw [if_neg (fun hh => h2 (by omega)), if_neg (fun hh => h2 hh.2)]
  · rw [if_neg (fun hh => h hh.1), if_neg (fun hh => h hh.1)]
theorem findK_end {fs : List Fl} {nm : Nm} : findK fs nm fs.length = findI fs nm := by
  unfold findK findI
  by_cases h : thereF fs nm = true
  · obtain ⟨g, hg, hgn⟩ := there_true h
    have := (List.getElem?_eq_some_iff.1 hg).1
    rw [if_pos ⟨h, this⟩, if_pos h]
  · rw [if_neg (fun hh => h hh.1), if_neg h]
section
variable {w : World} {room fuse : Int} {dark : Bool} {A : Option Addr} {n c : Nat} {es : List FE}
set_option maxRecDepth 100000 in
set_option maxHeartbeats 4000000 in
theorem r2Find_any (hs : Sl w 3 A n c (flatFE es)) (hso : SrtF (es.map FE.f)) (hn : n ≤ 1000000) (nm : Nm) :
    Calls Tryz.prog 30 #[.agg #[.int .i64 room, .slice A n c, .int .i64 fuse, .bool dark], .string (bstr nm)] w fun x w' => x = .returned (.int .i64 (findI (es.map FE.f) nm)) ∧ Below w.heap.size w w' := by
  have hb1 := below_alloc1 w (.cells #[.int .i64 room, .slice A n c, .int .i64 fuse, .bool dark] 30)
  have k0 := box_cellsR w [.int .i64 room, .slice A n c, .int .i64 fuse, .bool dark] 30 0 _ rfl
  have k1 := box_cellsR w [.int .i64 room, .slice A n c, .int .i64 fuse, .bool dark] 30 1 _ rfl
  have k2 := box_cellsR w [.int .i64 room, .slice A n c, .int .i64 fuse, .bool dark] 30 2 _ rfl
  have k3 := box_cellsR w [.int .i64 room, .slice A n c, .int .i64 fuse, .bool dark] 30 3 _ rfl
  have ob := new_own w [.int .i64 room, .slice A n c, .int .i64 fuse, .bool dark] 30 4 rfl (by unfold maxLen; omega)
  obtain ⟨w1, hw1⟩ : ∃ w1, w1 = w.alloc (.cells #[.int .i64 room, .slice A n c, .int .i64 fuse, .bool dark] 30) := ⟨_, rfl⟩
  have hT1 : (w.alloc (.cells [.int .i64 room, .slice A n c, .int .i64 fuse, .bool dark].toArray 30)) = w1 := hw1.symm
  rw [hT1] at k0 k1 k2 k3 ob
  rw [← hw1] at hb1
  have hz1 : w1.heap.size = w.heap.size + 1 := by rw [hw1]; simp
  have eW : w.alloc (.cells #[.int .i64 room, .slice A n c, .int .i64 fuse, .bool dark] 30) = w1 := hw1.symm
  have HB := Lib.hid hb1
  clear hb1 hw1 hT1 hz1 ob
  have hln := slFE_len hs
  have HS := Lib.hid (hs.below HB.out)
  have HSO := Lib.hid hso
  have K0 := Lib.hid k0
  have K1 := Lib.hid k1
  clear k0 k1 k2 k3 hs hso
  go_enter Tryz.func30, Tryz.ntmps30
  go_upto_region 1 with fail
  clear eW
  go_wp2_with fail
  go_loopw [5, 6] (fun s5 s6 wx => ∃ (k : Nat), k ≤ n ∧ s5 = .int .i64 (findK (es.map FE.f) nm k) ∧ s6 = .int .i64 (k : Int) ∧ Hid (Below w1.heap.size w1 wx)) (fun _ iv _ => n - (intOf iv).toNat)
  case atStart => exact ⟨0, by omega, by unfold findK; rw [if_neg (by omega)], rfl, Lib.hid (Below.refl _ _)⟩
  case round =>
    obtain ⟨k, hk, rfl, rfl, HW⟩ := hrel
    have k1 := cellB HW.out K1.out
    by_cases g1 : (k : Int) < (n : Int)
    · obtain ⟨e, he⟩ := get_some es k (by omega)
      have hef : (es.map FE.f)[k]? = some e.f := by rw [List.getElem?_map, he]; rfl
      have hss := HS.out.below HW.out
      obtain ⟨ad, rfl⟩ := slFE_addr hss he
      obtain ⟨y0, y1, y2⟩ := slFE_three hss he
      have hin : (0 : Int) ≤ (k : Int) ∧ (k : Int) < (n : Int) := by omega
      have Hef := Lib.hid hef
      clear hss he hef
      by_cases hx : e.f.nm = nm
      · have HF := Lib.hid (findK_hit HSO.out Hef.out hx)
        have hq : (e.f.nm == nm) = true := by rw [hx]; simp
        clear hx
        go_wp2_with fail
        go_roundw
        case rel => exact ⟨k + 1, by omega, by rw [HF.out], by go_num, HW⟩
        case measure => simp [intOf]; omega
      · have HF := Lib.hid (findK_miss Hef.out hx)
        have hq : (e.f.nm == nm) = false := by simpa using hx
        clear hx
        go_wp2_with fail
        go_roundw
        case rel => exact ⟨k + 1, by omega, by rw [HF.out], by go_num, HW⟩
        case measure => simp [intOf]; omega
    · obtain rfl : k = n := by omega
      have HF := Lib.hid (show findK (es.map FE.f) nm k = findI (es.map FE.f) nm by rw [← findK_end, List.length_map, hln])
      go_wp2_with fail
      go_ret
      exact ⟨by rw [← HF.out]; rfl, HB.out.trans (HW.out.mono HB.out.size)⟩

set_option maxRecDepth 100000 in
set_option maxHeartbeats 4000000 in
theorem r2Used_any (hs : Sl w 3 A n c (flatFE es)) (hn : n ≤ 1000000) (hu : usedF (es.map FE.f) ≤ 16777216) :
    Calls Tryz.prog 42 #[.agg #[.int .i64 room, .slice A n c, .int .i64 fuse, .bool dark]] w fun x w' => x = .returned (.int .i64 (usedF (es.map FE.f) : Int)) ∧ Below w.heap.size w w' := by
  have hb1 := below_alloc1 w (.cells #[.int .i64 room, .slice A n c, .int .i64 fuse, .bool dark] 30)
  have k0 := box_cellsR w [.int .i64 room, .slice A n c, .int .i64 fuse, .bool dark] 30 0 _ rfl
  have k1 := box_cellsR w [.int .i64 room, .slice A n c, .int .i64 fuse, .bool dark] 30 1 _ rfl
  have k2 := box_cellsR w [.int .i64 room, .slice A n c, .int .i64 fuse, .bool dark] 30 2 _ rfl
  have k3 := box_cellsR w [.int .i64 room, .slice A n c, .int .i64 fuse, .bool dark] 30 3 _ rfl
  have ob := new_own w [.int .i64 room, .slice A n c, .int .i64 fuse, .bool dark] 30 4 rfl (by unfold maxLen; omega)
  obtain ⟨w1, hw1⟩ : ∃ w1, w1 = w.alloc (.cells #[.int .i64 room, .slice A n c, .int .i64 fuse, .bool dark] 30) := ⟨_, rfl⟩
  have hT1 : (w.alloc (.cells [.int .i64 room, .slice A n c, .int .i64 fuse, .bool dark].toArray 30)) = w1 := hw1.symm
  rw [hT1] at k0 k1 k2 k3 ob
  rw [← hw1] at hb1
  have hz1 : w1.heap.size = w.heap.size + 1 := by rw [hw1]; simp
  have eW : w.alloc (.cells #[.int .i64 room, .slice A n c, .int .i64 fuse, .bool dark] 30) = w1 := hw1.symm
  have HB := Lib.hid hb1
  clear hb1 hw1 hT1 hz1 ob
  have hln := slFE_len hs
  have HS := Lib.hid (hs.below HB.out)
  have hus : ∀ k, usedF ((es.map FE.f).take k) ≤ 16777216 := fun k => by have := used_take_le (es.map FE.f) k; omega
  have Hus := Lib.hid hus
  have K1 := Lib.hid k1
  clear k0 k1 k2 k3 hs hu hus
  go_enter Tryz.func42, Tryz.ntmps42
  go_upto_region 1 with fail
  clear eW
  go_wp2_with fail
  go_loopw [3, 4] (fun s3 s4 wx => ∃ (k : Nat), k ≤ n ∧ s3 = .int .i64 (usedF ((es.map FE.f).take k) : Int) ∧ s4 = .int .i64 (k : Int) ∧ Hid (Below w1.heap.size w1 wx)) (fun _ iv _ => n - (intOf iv).toNat)
  case atStart => exact ⟨0, by omega, rfl, rfl, Lib.hid (Below.refl _ _)⟩
  case round =>
    obtain ⟨k, hk, rfl, rfl, HW⟩ := hrel
    have k1 := cellB HW.out K1.out
    by_cases g1 : (k : Int) < (n : Int)
    · obtain ⟨e, he⟩ := get_some es k (by omega)
      have hef : (es.map FE.f)[k]? = some e.f := by rw [List.getElem?_map, he]; rfl
      have hss := HS.out.below HW.out
      obtain ⟨ad, rfl⟩ := slFE_addr hss he
      obtain ⟨y0, y1, y2⟩ := slFE_three hss he
      have hin : (0 : Int) ≤ (k : Int) ∧ (k : Int) < (n : Int) := by omega
      have hu1 := used_take hef
      have hu2 := Hus.out (k + 1)
      obtain ⟨u, hu⟩ : ∃ u, u = usedF ((es.map FE.f).take k) := ⟨_, rfl⟩
      rw [← hu] at hu1
      rw [← hu]
      have hwr : IntKind.i64.wrap ((u : Int) + (e.f.b.length : Int)) = (u : Int) + (e.f.b.length : Int) := by rw [IntKind.wrap_i64]; omega
      have HU := Lib.hid hu1
      clear hss he hef hu1 hu2 hu
      go_wp2_with fail
      go_roundw
      case rel => exact ⟨k + 1, by omega, by rw [HU.out]; congr 1, by go_num, HW⟩
      case measure => simp [intOf]; omega
    · obtain rfl : k = n := by omega
      have HFL := Lib.hid (show (es.map FE.f).take k = es.map FE.f by rw [List.take_of_length_le]; rw [List.length_map]; omega)
      go_wp2_with fail
      go_ret
      exact ⟨by rw [HFL.out]; rfl, HB.out.trans (HW.out.mono HB.out.size)⟩
/-- a deed's way through the fuse -/
def burnI (fuse : Int) (dark : Bool) : Int × Bool × Int := if fuse < 0 then (fuse, dark, 0) else if fuse = 0 then (-1, true, 15) else (fuse - 1, dark, 0)
set_option maxRecDepth 100000 in
set_option maxHeartbeats 4000000 in
theorem r2burns_any (hf : -9223372036854775808 ≤ fuse ∧ fuse ≤ 9223372036854775807) :
    Calls Tryz.prog 43 #[.agg #[.int .i64 room, .slice A n c, .int .i64 fuse, .bool dark]] w fun x w' => x = .returned (.tuple #[.agg #[.int .i64 room, .slice A n c, .int .i64 (burnI fuse dark).1, .bool (burnI fuse dark).2.1], .int .i64 (burnI fuse dark).2.2]) ∧ Below w.heap.size w w' := by
  have hb1 := below_alloc1 w (.cells #[.int .i64 room, .slice A n c, .int .i64 fuse, .bool dark] 30)
  have k0 := box_cellsR w [.int .i64 room, .slice A n c, .int .i64 fuse, .bool dark] 30 0 _ rfl
  have k1 := box_cellsR w [.int .i64 room, .slice A n c, .int .i64 fuse, .bool dark] 30 1 _ rfl
  have k2 := box_cellsR w [.int .i64 room, .slice A n c, .int .i64 fuse, .bool dark] 30 2 _ rfl
  have k3 := box_cellsR w [.int .i64 room, .slice A n c, .int .i64 fuse, .bool dark] 30 3 _ rfl
  have ob := new_own w [.int .i64 room, .slice A n c, .int .i64 fuse, .bool dark] 30 4 rfl (by unfold maxLen; omega)
  obtain ⟨w1, hw1⟩ : ∃ w1, w1 = w.alloc (.cells #[.int .i64 room, .slice A n c, .int .i64 fuse, .bool dark] 30) := ⟨_, rfl⟩
  have hT1 : (w.alloc (.cells [.int .i64 room, .slice A n c, .int .i64 fuse, .bool dark].toArray 30)) = w1 := hw1.symm
  rw [hT1] at k0 k1 k2 k3 ob
  rw [← hw1] at hb1
  have hz1 : w1.heap.size = w.heap.size + 1 := by rw [hw1]; simp
  have hb2 := below_alloc1 w1 (.cells #[.int .i64 0, .slice none 0 0, .int .i64 0, .bool false] 30)
  have orr := new_own w1 [.int .i64 0, .slice none 0 0, .int .i64 0, .bool false] 30 4 rfl (by unfold maxLen; omega)
  obtain ⟨w2, hw2⟩ : ∃ w2, w2 = w1.alloc (.cells #[.int .i64 0, .slice none 0 0, .int .i64 0, .bool false] 30) := ⟨_, rfl⟩
  have hT2 : (w1.alloc (.cells [.int .i64 0, .slice none 0 0, .int .i64 0, .bool false].toArray 30)) = w2 := hw2.symm
  rw [hT2, hz1] at orr
  rw [← hw2] at hb2
  have eW : (w.alloc (.cells #[.int .i64 room, .slice A n c, .int .i64 fuse, .bool dark] 30)).alloc (.cells #[.int .i64 0, .slice none 0 0, .int .i64 0, .bool false] 30) = w2 := by rw [hw2, hw1]
  have k0 := cellB hb2 k0
  have k1 := cellB hb2 k1
  have k2 := cellB hb2 k2
  have k3 := cellB hb2 k3
  have OB := Lib.hid (Own.below ob hb2)
  have OR := Lib.hid (Own.lower orr (show w.heap.size ≤ w.heap.size + 1 by omega))
  have HB := Lib.hid (hb1.trans (hb2.mono hb1.size))
  clear hb1 hb2 hw1 hw2 hT1 hT2 hz1 ob orr
  have g0 := World.ownsRow.frozenAt OB.out 0
  have g2 := World.ownsRow.frozenAt OB.out 2
  have g3 := World.ownsRow.frozenAt OB.out 3
  go_enter Tryz.func43, Tryz.ntmps43
  go_upto_region 1 with fail
  clear eW
  by_cases h1 : fuse < 0
  · have HV := Lib.hid (show burnI fuse dark = (fuse, dark, 0) by unfold burnI; rw [if_pos h1])
    have f0 := World.ownsRow.frozenAt OR.out 0
    have f1 := World.ownsRow.frozenAt OR.out 1
    have f2 := World.ownsRow.frozenAt OR.out 2
    have f3 := World.ownsRow.frozenAt OR.out 3
    have m0 := World.ownsRow.cellAt OR.out 0 (by omega)
    have m1 := World.ownsRow.cellAt OR.out 1 (by omega)
    have m2 := World.ownsRow.cellAt OR.out 2 (by omega)
    have m3 := World.ownsRow.cellAt OR.out 3 (by omega)
    simp only [List.getElem?_cons_zero, List.getElem?_cons_succ] at m0 m1 m2 m3
    have Hst := Lib.hid (stored4R OR.out (.int .i64 room) (.slice A n c) (.int .i64 fuse) (.bool dark))
    go_wp2_with fail
    refine bodyPost_ret (results_cell1R rfl _ _ _ ⟨w.heap.size + 1, 0, none⟩ rfl _ (load_own2D Hst.out.1)) rfl ?_
    rw [HV.out]
    exact ⟨rfl, wrote2 HB.out Hst.out.2 (by omega)⟩
  · by_cases h2 : fuse = 0
    · subst h2
      have HV := Lib.hid (show burnI 0 dark = (-1, true, 15) by unfold burnI; rw [if_neg (by omega), if_pos rfl])
      have b1 := World.ownsRow.stored OB.out 2 (.int .i64 (-1))
      have b2 := World.ownsRow.stored b1.1 3 (.bool true)
      have hor := OR.out.apart b1.2 (by omega)
      have hor := Own.apart hor b2.2 (by omega)
      have HG := Lib.hid (b1.2.trans b2.2)
      have OR2 := Lib.hid hor
      clear b1 b2 hor
      have f0 := World.ownsRow.frozenAt OR.out 0
      have f1 := World.ownsRow.frozenAt OR.out 1
      have f2 := World.ownsRow.frozenAt OR.out 2
      have f3 := World.ownsRow.frozenAt OR.out 3
      have m0 := World.ownsRow.cellAt OR.out 0 (by omega)
      have m1 := World.ownsRow.cellAt OR.out 1 (by omega)
      have m2 := World.ownsRow.cellAt OR.out 2 (by omega)
      have m3 := World.ownsRow.cellAt OR.out 3 (by omega)
      simp only [List.getElem?_cons_zero, List.getElem?_cons_succ] at m0 m1 m2 m3
      have Hst := Lib.hid (stored4R OR2.out (.int .i64 room) (.slice A n c) (.int .i64 (-1)) (.bool true))
      go_wp2_with fail
      refine bodyPost_ret (results_cell1R rfl _ _ _ ⟨w.heap.size + 1, 0, none⟩ rfl _ (load_own2D Hst.out.1)) rfl ?_
      rw [HV.out]
      exact ⟨rfl, wrote2 (wrote2 HB.out HG.out (Nat.le_refl _)) Hst.out.2 (by omega)⟩
    · have h3 : (fuse == 0) = false := by simpa using h2
      have HV := Lib.hid (show burnI fuse dark = (fuse - 1, dark, 0) by unfold burnI; rw [if_neg h1, if_neg h2])
      have hw : IntKind.i64.wrap (fuse - 1) = fuse - 1 := by rw [IntKind.wrap_i64]; omega
      have b1 := World.ownsRow.stored OB.out 2 (.int .i64 (fuse - 1))
      have hor := OR.out.apart b1.2 (by omega)
      have HG := Lib.hid b1.2
      have OR2 := Lib.hid hor
      clear b1 hor h2
      have f0 := World.ownsRow.frozenAt OR.out 0
      have f1 := World.ownsRow.frozenAt OR.out 1
      have f2 := World.ownsRow.frozenAt OR.out 2
      have f3 := World.ownsRow.frozenAt OR.out 3
      have m0 := World.ownsRow.cellAt OR.out 0 (by omega)
      have m1 := World.ownsRow.cellAt OR.out 1 (by omega)
      have m2 := World.ownsRow.cellAt OR.out 2 (by omega)
      have m3 := World.ownsRow.cellAt OR.out 3 (by omega)
      simp only [List.getElem?_cons_zero, List.getElem?_cons_succ] at m0 m1 m2 m3
      have Hst := Lib.hid (stored4R OR2.out (.int .i64 room) (.slice A n c) (.int .i64 (fuse - 1)) (.bool dark))
      go_wp2_with fail
      refine bodyPost_ret (results_cell1R rfl _ _ _ ⟨w.heap.size + 1, 0, none⟩ rfl _ (load_own2D Hst.out.1)) rfl ?_
      rw [HV.out]
      exact ⟨rfl, wrote2 (wrote2 HB.out HG.out (Nat.le_refl _)) Hst.out.2 (by omega)⟩

def askF (fs : List Fl) (dark : Bool) (nm : Nm) : Int := if dark = true then 15 else if thereF fs nm = true then 0 else 16
/-- the file that was asked for, as the document tells it -/
def AskedP (G : Nat → Prop) (w : World) (fs : List Fl) (dark : Bool) (nm : Nm) (x : Ending) (w' : World) : Prop :=
  ∃ B d, x = .returned (.tuple #[.agg #[.string (bstr (if askF fs dark nm = 0 then nm else [])), .slice B (if askF fs dark nm = 0 then (lookF fs nm).b else []).length d, .int .i64 (if askF fs dark nm = 0 then (lookF fs nm).safe else 0)], .int .i64 (askF fs dark nm)]) ∧
    Sl w' 1 B (if askF fs dark nm = 0 then (lookF fs nm).b else []).length d (bytesV (if askF fs dark nm = 0 then (lookF fs nm).b else [])) ∧ (bytesV (if askF fs dark nm = 0 then (lookF fs nm).b else []) ≠ [] → ∀ a, B = some a → a.block < w'.heap.size ∧ G a.block) ∧ Below w.heap.size w w'
set_option maxRecDepth 100000 in
set_option maxHeartbeats 4000000 in
theorem r2asked_any {G : Nat → Prop} (hs : R2 G w A n c es) (hso : SrtF (es.map FE.f)) (hn : n ≤ 1000000) (nm : Nm) :
    Calls Tryz.prog 40 #[.agg #[.int .i64 room, .slice A n c, .int .i64 fuse, .bool dark], .string (bstr nm)] w (AskedP G w (es.map FE.f) dark nm) := by
  have hb1 := below_alloc1 w (.cells #[.int .i64 room, .slice A n c, .int .i64 fuse, .bool dark] 30)
  have k0 := box_cellsR w [.int .i64 room, .slice A n c, .int .i64 fuse, .bool dark] 30 0 _ rfl
  have k1 := box_cellsR w [.int .i64 room, .slice A n c, .int .i64 fuse, .bool dark] 30 1 _ rfl
  have k2 := box_cellsR w [.int .i64 room, .slice A n c, .int .i64 fuse, .bool dark] 30 2 _ rfl
  have k3 := box_cellsR w [.int .i64 room, .slice A n c, .int .i64 fuse, .bool dark] 30 3 _ rfl
  have ob := new_own w [.int .i64 room, .slice A n c, .int .i64 fuse, .bool dark] 30 4 rfl (by unfold maxLen; omega)
  obtain ⟨w1, hw1⟩ : ∃ w1, w1 = w.alloc (.cells #[.int .i64 room, .slice A n c, .int .i64 fuse, .bool dark] 30) := ⟨_, rfl⟩
  have hT1 : (w.alloc (.cells [.int .i64 room, .slice A n c, .int .i64 fuse, .bool dark].toArray 30)) = w1 := hw1.symm
  rw [hT1] at k0 k1 k2 k3 ob
  rw [← hw1] at hb1
  have hz1 : w1.heap.size = w.heap.size + 1 := by rw [hw1]; simp
  have hb2 := below_alloc1 w1 (.cells #[.string ⟨#[]⟩, .slice none 0 0, .int .i64 0] 82)
  have orr := new_own w1 [.string ⟨#[]⟩, .slice none 0 0, .int .i64 0] 82 3 rfl (by unfold maxLen; omega)
  obtain ⟨w2, hw2⟩ : ∃ w2, w2 = w1.alloc (.cells #[.string ⟨#[]⟩, .slice none 0 0, .int .i64 0] 82) := ⟨_, rfl⟩
  have hT2 : (w1.alloc (.cells [.string ⟨#[]⟩, .slice none 0 0, .int .i64 0].toArray 82)) = w2 := hw2.symm
  rw [hT2, hz1] at orr
  rw [← hw2] at hb2
  have eW : (w.alloc (.cells #[.int .i64 room, .slice A n c, .int .i64 fuse, .bool dark] 30)).alloc (.cells #[.string ⟨#[]⟩, .slice none 0 0, .int .i64 0] 82) = w2 := by rw [hw2, hw1]
  have k0 := cellB hb2 k0
  have k1 := cellB hb2 k1
  have k2 := cellB hb2 k2
  have k3 := cellB hb2 k3
  have OB := Lib.hid (Own.below ob hb2)
  have OR := Lib.hid (Own.lower orr (show w.heap.size ≤ w.heap.size + 1 by omega))
  have HB := Lib.hid (hb1.trans (hb2.mono hb1.size))
  clear hb1 hb2 hw1 hw2 hT1 hT2 hz1 ob orr
  have hln := slFE_len hs.sl
  have HS := Lib.hid (hs.below HB.out)
  have HSO := Lib.hid hso
  have K0 := Lib.hid k0
  clear hs hso
  go_enter Tryz.func40, Tryz.ntmps40
  go_upto_region 1 with fail
  clear eW
  cases dark with
  | true =>
    have HA := Lib.hid (show askF (es.map FE.f) true nm = 15 by unfold askF; rw [if_pos rfl])
    have f0 := World.ownsRow.frozenAt OR.out 0
    have f1 := World.ownsRow.frozenAt OR.out 1
    have f2 := World.ownsRow.frozenAt OR.out 2
    have m0 := World.ownsRow.cellAt OR.out 0 (by omega)
    have m1 := World.ownsRow.cellAt OR.out 1 (by omega)
    have m2 := World.ownsRow.cellAt OR.out 2 (by omega)
    simp only [List.getElem?_cons_zero, List.getElem?_cons_succ] at m0 m1 m2
    have Hst := Lib.hid (stored3R OR.out (.string ⟨#[]⟩) (.slice none 0 0) (.int .i64 0))
    go_wp2_with fail
    refine bodyPost_ret (results_cell1R rfl _ _ _ ⟨w.heap.size + 1, 0, none⟩ rfl _ (load_own2F Hst.out.1)) rfl ?_
    unfold AskedP
    simp only [HA.out]
    exact ⟨none, 0, rfl, Sl.nil _ _, fun h => absurd rfl h, wrote2 HB.out Hst.out.2 (by omega)⟩
  | false =>
    have hc := r2Find_any (w := w2) (room := room) (fuse := fuse) (dark := false) HS.out.sl HSO.out hn nm
    go_wp2_with fail
    refine hc.mono ?_; rintro x w3 ⟨rfl, b3⟩
    have B3 := Lib.hid (HB.out.trans (b3.mono HB.out.size))
    have OR3 := Lib.hid (Own.below OR.out b3)
    have S3 := Lib.hid (HS.out.below b3)
    have j1 := cellB b3 k1
    clear hc b3 k0 k1 k2 k3
    cases ht : thereF (es.map FE.f) nm with
    | false =>
      have HA := Lib.hid (show askF (es.map FE.f) false nm = 16 by unfold askF; rw [if_neg (by simp), if_neg (by rw [ht]; simp)])
      have hfi : findI (es.map FE.f) nm = -1 := by unfold findI; rw [if_neg (by rw [ht]; simp)]
      rw [hfi]
      clear hfi ht
      have f0 := World.ownsRow.frozenAt OR3.out 0
      have f1 := World.ownsRow.frozenAt OR3.out 1
      have f2 := World.ownsRow.frozenAt OR3.out 2
      have m0 := World.ownsRow.cellAt OR3.out 0 (by omega)
      have m1 := World.ownsRow.cellAt OR3.out 1 (by omega)
      have m2 := World.ownsRow.cellAt OR3.out 2 (by omega)
      simp only [List.getElem?_cons_zero, List.getElem?_cons_succ] at m0 m1 m2
      have Hst := Lib.hid (stored3R OR3.out (.string ⟨#[]⟩) (.slice none 0 0) (.int .i64 0))
      go_wp2_with fail
      refine bodyPost_ret (results_cell1R rfl _ _ _ ⟨w.heap.size + 1, 0, none⟩ rfl _ (load_own2F Hst.out.1)) rfl ?_
      unfold AskedP
      simp only [HA.out]
      exact ⟨none, 0, rfl, Sl.nil _ _, fun h => absurd rfl h, wrote2 B3.out Hst.out.2 (by omega)⟩
    | true =>
      have HA := Lib.hid (show askF (es.map FE.f) false nm = 0 by unfold askF; rw [if_neg (by simp), if_pos ht])
      obtain ⟨f, hf, hfn⟩ := there_true ht
      obtain ⟨k, hk⟩ : ∃ k, k = posF (es.map FE.f) nm := ⟨_, rfl⟩
      have hfi : findI (es.map FE.f) nm = (k : Int) := by unfold findI; rw [if_pos ht, hk]
      have hlk : lookF (es.map FE.f) nm = f := by unfold lookF; rw [ht, hf]
      rw [hfi]
      rw [← hk] at hf
      obtain ⟨e, he, rfl⟩ : ∃ e, es[k]? = some e ∧ e.f = f := by
        rw [List.getElem?_map, Option.map_eq_some_iff] at hf
        exact hf
      have hkl := (List.getElem?_eq_some_iff.1 he).1
      have hss := S3.out.sl
      obtain ⟨ad, rfl⟩ := slFE_addr hss he
      obtain ⟨y0, y1, y2⟩ := slFE_three hss he
      have hin : (0 : Int) ≤ (k : Int) ∧ (k : Int) < (n : Int) := by omega
      have hk0 : ¬ (k : Int) < 0 := by omega
      have HE := Lib.hid (S3.out.ok e (List.mem_of_getElem? he))
      have HN := Lib.hid hfn
      have HL := Lib.hid hlk
      clear ht hf hfi hlk hk he hss hfn
      have f0 := World.ownsRow.frozenAt OR3.out 0
      have f1 := World.ownsRow.frozenAt OR3.out 1
      have f2 := World.ownsRow.frozenAt OR3.out 2
      have m0 := World.ownsRow.cellAt OR3.out 0 (by omega)
      have m1 := World.ownsRow.cellAt OR3.out 1 (by omega)
      have m2 := World.ownsRow.cellAt OR3.out 2 (by omega)
      simp only [List.getElem?_cons_zero, List.getElem?_cons_succ] at m0 m1 m2
      have Hst := Lib.hid (stored3R OR3.out (.string (bstr e.f.nm)) (.slice e.A e.f.b.length e.c) (.int .i64 e.f.safe))
      go_wp2_with fail
      refine bodyPost_ret (results_cell1R rfl _ _ _ ⟨w.heap.size + 1, 0, none⟩ rfl _ (load_own2F Hst.out.1)) rfl ?_
      unfold AskedP
      simp only [HA.out, HL.out, if_true]
      refine ⟨e.A, e.c, by rw [HN.out]; rfl, sl_keptF (held_of_own OR3.out) HE.out.1 Hst.out.2, fun hne a ha => ⟨Nat.lt_of_lt_of_le (HE.out.2 hne a ha).1 Hst.out.2.size, (HE.out.2 hne a ha).2⟩, wrote2 B3.out Hst.out.2 (by omega)⟩
end
end Go.Proofs.YtemegkapmgcffaaGreat
