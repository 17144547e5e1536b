import Derived.Test.YtphjmbhlokkdiaaEvE
import Derived.Deep.MidRow
import Derived.Test.YtphjmbhlokkdiaaRegionN
namespace Go.Proofs.Ytphjmbhlokkdiaa
open Go.RowKit
set_option linter.unusedSimpArgs false
set_option linter.unusedVariables false

def Ev.zero : Ev := ⟨0, 0, 0, 0, 0, 0, []⟩
theorem new_own (w : World) (cs : List Value) (t : TypeId) (N : Nat) (h : cs.length = N) (hm : N ≤ maxLen) : Own w.heap.size t 1 (w.alloc (.cells cs.toArray t)) (some ⟨w.heap.size, 0, none⟩) N N cs :=
  ⟨by omega, .inr ⟨w.heap.size, N, cs.toArray, rfl, Nat.le_refl _, heap_alloc_new w _, Nat.le_refl _, hm, by simpa using h, by rw [Nat.mul_one, ← h]; simp⟩⟩

theorem results_cell2 {fn : Func} {t u v : Tmp} {ty : TypeId} (h : fn.results = #[.cell t ty, .tmp u, .tmp v]) (tmps : Array Value) (P : Program) (w : World) (a : Addr) (ht : tmps.getD t undef = .pointer (some a)) (x : Value) (hl : (loadVar ty a).run P w = .ok x w) :
    (results fn tmps).run P w = .ok (.tuple #[x, tmps.getD u undef, tmps.getD v undef]) w := by
  simp only [Array.getD_eq_getD_getElem?] at ht
  simp [results, h, ht, asAddr, Sem.run_bind, hl]
theorem load_own {base r : Nat} {w : World} {cs : List Value} (h : Own base 24 1 w (some ⟨r, 0, none⟩) 7 7 cs) : (loadVar 24 ⟨r, 0, none⟩).run Try.prog w = .ok (.agg cs.toArray) w := by
  have hl : cs.length = 7 := by simpa using h.1
  exact run_loadVar_mid w r 0 24 cs _ (fun j v hj => by
    have hlt : j < 7 := by have := (List.getElem?_eq_some_iff.1 hj).1; omega
    have := World.ownsRow.cellAt h j (by omega)
    rw [Nat.zero_add, this, hj]) Try.underlying24 rfl (by rw [hl]; kernel_rfl)

/-- a reader, an event that is being read, and the event that will be answered -/
structure RS (g h r : Nat) (w0 w : World) (A : Option Addr) (n c at_ bad : Nat) (cs : List Value) : Prop where
  rd : RdIn w0.heap.size w g A n c at_ bad
  ev : Own w0.heap.size 24 1 w (some ⟨h, 0, none⟩) 7 7 cs
  res : Own w0.heap.size 24 1 w (some ⟨r, 0, none⟩) 7 7 Ev.zero.cells
  bl : Below w0.heap.size w0 w
  gh : g ≠ h
  gr : g ≠ r
  hr : h ≠ r
theorem Own.apart {base size n c h g : Nat} {e : TypeId} {w w' : World} {cs : List Value} (k : Own base e size w (some ⟨h, 0, none⟩) n c cs) (hg : w.grownBy w' (some g)) (hne : h ≠ g) : Own base e size w' (some ⟨h, 0, none⟩) n c cs :=
  World.ownsRow.kept k hg (.inr (by simpa [Value.ownBlock] using hne))
section
variable {g h r n c at_ bad : Nat} {w0 w : World} {A : Option Addr} {cs : List Value}
theorem RS.call {w' : World} {at1 bad1 : Nat} (s : RS g h r w0 w A n c at_ bad cs) (h1 : RdIn w0.heap.size w' g A n c at1 bad1) (h2 : w.grownBy w' (some g)) : RS g h r w0 w' A n c at1 bad1 cs :=
  ⟨h1, s.ev.apart h2 s.gh.symm, s.res.apart h2 s.gr.symm, s.bl.grown h2 s.bl.size (fun k hk => by cases hk; exact (World.ownsRow.lt s.rd _ rfl).1), s.gh, s.gr, s.hr⟩
theorem RS.set (s : RS g h r w0 w A n c at_ bad cs) (j : Nat) (v : Value) : RS g h r w0 (w.setCell ⟨h, j, none⟩ v) A n c at_ bad (cs.set j v) := by
  obtain ⟨h1, h2⟩ := World.ownsRow.stored s.ev j v
  exact ⟨World.ownsRow.kept s.rd h2 (.inr (by simpa [Value.ownBlock] using s.gh)), h1, s.res.apart h2 s.hr.symm, s.bl.grown h2 s.bl.size (fun k hk => by cases hk; exact (World.ownsRow.lt s.ev _ rfl).1), s.gh, s.gr, s.hr⟩
end

theorem RS.below {g h r n c at_ bad : Nat} {w0 w w' : World} {A : Option Addr} {cs : List Value} (s : RS g h r w0 w A n c at_ bad cs) (hb : Below w.heap.size w w') : RS g h r w0 w' A n c at_ bad cs :=
  ⟨s.rd.below hb, s.ev.below hb, s.res.below hb, s.bl.trans (hb.mono s.bl.size), s.gh, s.gr, s.hr⟩
theorem stored7 {base r : Nat} {t : TypeId} {w : World} {cs : List Value} (h : Own base t 1 w (some ⟨r, 0, none⟩) 7 7 cs) (v0 v1 v2 v3 v4 v5 v6 : Value) :
    Own base t 1 (((((((w.setCell ⟨r, 0, none⟩ v0).setCell ⟨r, 1, none⟩ v1).setCell ⟨r, 2, none⟩ v2).setCell ⟨r, 3, none⟩ v3).setCell ⟨r, 4, none⟩ v4).setCell ⟨r, 5, none⟩ v5).setCell ⟨r, 6, none⟩ v6) (some ⟨r, 0, none⟩) 7 7 [v0, v1, v2, v3, v4, v5, v6] ∧
    w.grownBy (((((((w.setCell ⟨r, 0, none⟩ v0).setCell ⟨r, 1, none⟩ v1).setCell ⟨r, 2, none⟩ v2).setCell ⟨r, 3, none⟩ v3).setCell ⟨r, 4, none⟩ v4).setCell ⟨r, 5, none⟩ v5).setCell ⟨r, 6, none⟩ v6) (some r) := by
  have h0 := World.ownsRow.stored h 0 v0
  have h1 := h0.1.stored 1 v1
  have h2 := h1.1.stored 2 v2
  have h3 := h2.1.stored 3 v3
  have h4 := h3.1.stored 4 v4
  have h5 := h4.1.stored 5 v5
  have h6 := h5.1.stored 6 v6
  refine ⟨?_, grownBy_trans h0.2 (grownBy_trans h1.2 (grownBy_trans h2.2 (grownBy_trans h3.2 (grownBy_trans h4.2 (grownBy_trans h5.2 h6.2)))))⟩
  have hl : cs.length = 7 := by simpa using h.1
  obtain ⟨c0, c1, c2, c3, c4, c5, c6, rfl⟩ : ∃ c0 c1 c2 c3 c4 c5 c6, cs = [c0, c1, c2, c3, c4, c5, c6] := by
    match cs, hl with
    | [c0, c1, c2, c3, c4, c5, c6], _ => exact ⟨_, _, _, _, _, _, _, rfl⟩
  exact h6.1
/-- the row of the answer, whatever the value -/
def Jev (base r : Nat) (cs : List Value) (w : World) : Prop := Own base 24 1 w (some ⟨r, 0, none⟩) 7 7 cs
theorem Jev_stable (base r : Nat) (cs : List Value) : Stable (fun _ w => Jev base r cs w) := fun _ _ _ hb h => Own.below h hb
def Rr (r : Nat) (w w' : World) : Prop := w.grownBy w' (some r)

/-- what is read at a place: the event, the place behind it, the error -/
def rdE (l : List UInt8) (at_ : Nat) : Ev × Nat × Nat :=
  let a := rdN l at_ 0
  let b := rdN l a.2.1 a.2.2
  let c := rdN l b.2.1 b.2.2
  let d := rdN l c.2.1 c.2.2
  let e := rdI l d.2.1 d.2.2
  let f := rdN l e.2.1 e.2.2
  let s := rdS l f.2.1 f.2.2
  if s.2.2 ≠ 0 then (.zero, 0, s.2.2)
  else if 255 < a.1 then (.zero, 0, 102)
  else if rightB ⟨a.1, (b.1 : Nat), (c.1 : Nat), (d.1 : Nat), e.1, (f.1 : Nat), s.1⟩ = false then (.zero, 0, 102)
  else (⟨a.1, (b.1 : Nat), (c.1 : Nat), (d.1 : Nat), e.1, (f.1 : Nat), s.1⟩, s.2.1, 0)
def rdEv (l : List UInt8) (at_ : Int) : Ev × Nat × Nat := if at_ < 0 ∨ (l.length : Int) < at_ then (.zero, 0, 2) else rdE l at_.toNat

theorem rdN_lt (l : List UInt8) (a b : Nat) : (rdN l a b).1 ≤ 4611686018427387904 := by
  unfold rdN
  split
  · simp
  · split
    · simp
    · split
      · simp
      · omega

set_option maxRecDepth 100000 in
set_option maxHeartbeats 4000000 in
theorem read_any (A : Option Addr) (n c : Nat) (l : List UInt8) (at_ : Int) (w : World) (hs : Sl w 1 A n c (bytesV l)) (hn : n ≤ 1000000) (hq : -9223372036854775808 ≤ at_ ∧ at_ ≤ 9223372036854775807) :
    Calls Try.prog 28 #[.slice A n c, .int .i64 at_] w fun x w' => x = .returned (.tuple #[(rdEv l at_).1.v, .int .i64 ((rdEv l at_).2.1 : Nat), .int .i64 ((rdEv l at_).2.2 : Nat)]) ∧ Below w.heap.size w w' := by
  have hl := hs.blen
  have hb1 := below_alloc1 w (.cells Ev.zero.cells.toArray 24)
  unfold rdEv
  rw [hl]
  by_cases h0 : at_ < 0 ∨ (n : Int) < at_
  · rw [if_pos h0]
    go_enter Try.func28, Try.ntmps28
    by_cases h1 : at_ < 0
    · go_wp2_with fail
      have hz := load_own (new_own w Ev.zero.cells 24 7 rfl (by unfold maxLen; omega))
      refine bodyPost_ret (results_cell2 rfl _ _ _ ⟨w.heap.size, 0, none⟩ rfl _ hz) rfl ?_
      exact ⟨rfl, hb1⟩
    · have h2 : (n : Int) < at_ := by omega
      go_wp2_with fail
      have hz := load_own (new_own w Ev.zero.cells 24 7 rfl (by unfold maxLen; omega))
      refine bodyPost_ret (results_cell2 rfl _ _ _ ⟨w.heap.size, 0, none⟩ rfl _ hz) rfl ?_
      exact ⟨rfl, hb1⟩
  · rw [if_neg h0]
    obtain ⟨at0, rfl⟩ : ∃ k : Nat, at_ = (k : Int) := ⟨at_.toNat, by omega⟩
    have hle : (at0 : Int) ≤ (n : Int) := by omega
    rw [Int.toNat_natCast]
    unfold rdE
    have ha1 := rdN_lt l at0 0
    obtain ⟨⟨a1, a2, a3⟩, ha⟩ : ∃ q, rdN l at0 0 = q := ⟨_, rfl⟩
    rw [ha] at ha1 ⊢
    have hb1' := rdN_lt l a2 a3
    obtain ⟨⟨b1, b2, b3⟩, hb⟩ : ∃ q, rdN l a2 a3 = q := ⟨_, rfl⟩
    simp only
    rw [hb] at hb1' ⊢
    have hc1 := rdN_lt l b2 b3
    obtain ⟨⟨c1, c2, c3⟩, hc⟩ : ∃ q, rdN l b2 b3 = q := ⟨_, rfl⟩
    simp only
    rw [hc] at hc1 ⊢
    have hd1 := rdN_lt l c2 c3
    obtain ⟨⟨d1, d2, d3⟩, hd⟩ : ∃ q, rdN l c2 c3 = q := ⟨_, rfl⟩
    simp only
    rw [hd] at hd1 ⊢
    obtain ⟨⟨e1, e2, e3⟩, he⟩ : ∃ q, rdI l d2 d3 = q := ⟨_, rfl⟩
    simp only
    rw [he]
    have hf1 := rdN_lt l e2 e3
    obtain ⟨⟨f1, f2, f3⟩, hf⟩ : ∃ q, rdN l e2 e3 = q := ⟨_, rfl⟩
    simp only
    rw [hf] at hf1 ⊢
    obtain ⟨⟨s1, s2, s3⟩, hss⟩ : ∃ q, rdS l f2 f3 = q := ⟨_, rfl⟩
    simp only
    rw [hss]
    simp only
    simp only at ha1 hb1' hc1 hd1 hf1
    have HA := Lib.hid ha
    have HB := Lib.hid hb
    have HC := Lib.hid hc
    have HD := Lib.hid hd
    have HE := Lib.hid he
    have HF := Lib.hid hf
    have HS := Lib.hid hss
    clear ha hb hc hd he hf hss h0 hl
    obtain ⟨pr, hp⟩ : ∃ p : Ev × Nat × Nat, p = if s3 ≠ 0 then (Ev.zero, 0, s3) else if 255 < a1 then (.zero, 0, 102) else if rightB ⟨a1, (b1 : Nat), (c1 : Nat), (d1 : Nat), e1, (f1 : Nat), s1⟩ = false then (.zero, 0, 102) else (⟨a1, (b1 : Nat), (c1 : Nat), (d1 : Nat), e1, (f1 : Nat), s1⟩, s2, 0) := ⟨_, rfl⟩
    rw [← hp]
    have HP := Lib.hid hp
    clear hp hb1
    obtain ⟨W1, hW1⟩ : ∃ W, W = w.alloc (.cells #[.int .u8 0, .int .i64 0, .int .i64 0, .int .i64 0, .int .i64 0, .int .i64 0, .string { data := #[] }] 24) := ⟨_, rfl⟩
    have r1 : Own w.heap.size 24 1 (w.alloc (.cells #[.int .u8 0, .int .i64 0, .int .i64 0, .int .i64 0, .int .i64 0, .int .i64 0, .string { data := #[] }] 24)) (some ⟨w.heap.size, 0, none⟩) 7 7 Ev.zero.cells := new_own w Ev.zero.cells 24 7 rfl (by unfold maxLen; omega)
    have z1 := below_alloc1 w (.cells #[.int .u8 0, .int .i64 0, .int .i64 0, .int .i64 0, .int .i64 0, .int .i64 0, .string { data := #[] }] 24)
    rw [← hW1] at r1
    rw [← hW1] at z1
    have n1 : W1.heap.size = w.heap.size + 1 := by rw [hW1]; simp
    obtain ⟨W2, hW2⟩ : ∃ W, W = W1.alloc (.cells #[.slice A n c, .int .i64 (at0 : Int), .int .i64 0] 104) := ⟨_, rfl⟩
    have r2 := new_own W1 [.slice A n c, .int .i64 (at0 : Int), .int .i64 0] 104 3 rfl (by unfold maxLen; omega)
    have z2 := below_alloc1 W1 (.cells #[.slice A n c, .int .i64 (at0 : Int), .int .i64 0] 104)
    rw [← hW2] at r2 z2
    have n2 : W2.heap.size = w.heap.size + 2 := by rw [hW2]; simp [n1]
    obtain ⟨W3, hW3⟩ : ∃ W, W = W2.alloc (.cells #[.int .u8 0, .int .i64 0, .int .i64 0, .int .i64 0, .int .i64 0, .int .i64 0, .string { data := #[] }] 24) := ⟨_, rfl⟩
    have r3 : Own W2.heap.size 24 1 (W2.alloc (.cells #[.int .u8 0, .int .i64 0, .int .i64 0, .int .i64 0, .int .i64 0, .int .i64 0, .string { data := #[] }] 24)) (some ⟨W2.heap.size, 0, none⟩) 7 7 Ev.zero.cells := new_own W2 Ev.zero.cells 24 7 rfl (by unfold maxLen; omega)
    have z3 := below_alloc1 W2 (.cells #[.int .u8 0, .int .i64 0, .int .i64 0, .int .i64 0, .int .i64 0, .int .i64 0, .string { data := #[] }] 24)
    rw [← hW3] at r3
    rw [← hW3] at z3
    have rs : RS (w.heap.size + 1) (w.heap.size + 1 + 1) w.heap.size w W3 A n c at0 0 Ev.zero.cells := by
      refine ⟨?_, ?_, (r1.below z2).below z3, z1.trans ((z2.trans (z3.mono z2.size)).mono z1.size), by omega, by omega, by omega⟩
      · have h := World.ownsRow.mono (r2.below z3) (base' := w.heap.size) (by omega)
        rw [n1] at h
        exact h
      · have h := World.ownsRow.mono r3 (base' := w.heap.size) (by omega)
        rw [n2] at h
        exact h
    clear r1 r2 r3 z1 z2 z3
    go_enter Try.func28, Try.ntmps28
    go_wp2_with fail
    rw [← hW1, ← hW2, ← hW3]
    clear hW1 hW2 hW3 n1 n2
    have hsh : Ev.zero.cells = [.int .u8 0, .int .i64 0, .int .i64 0, .int .i64 0, .int .i64 0, .int .i64 0, .string { data := #[] }] := rfl
    rw [hsh] at rs
    clear hsh
    --@steps
    refine (number_any _ _ A n c at0 0 l _ rs.rd (hs.below rs.bl) hn).mono ?_
    rintro x w1 ⟨rfl, hrd, hgr⟩
    rw [HA.out] at hrd ⊢
    simp only at hrd ⊢
    replace rs := rs.call hrd hgr
    clear hrd hgr
    go_wp2_with fail
    refine (number_any _ _ A n c a2 a3 l _ rs.rd (hs.below rs.bl) hn).mono ?_
    rintro x w2 ⟨rfl, hrd, hgr⟩
    rw [HB.out] at hrd ⊢
    simp only at hrd ⊢
    replace rs := rs.call hrd hgr
    clear hrd hgr
    have fz := World.ownsRow.frozenAt rs.ev 1
    have fc := World.ownsRow.cellAt rs.ev 1 (by omega)
    simp only [List.getElem?_cons_succ, List.getElem?_cons_zero] at fc
    replace rs := rs.set 1 (.int .i64 (b1 : Int))
    simp only [List.set_cons_zero, List.set_cons_succ] at rs
    go_wp2_with fail
    clear fz fc
    refine (number_any _ _ A n c b2 b3 l _ rs.rd (hs.below rs.bl) hn).mono ?_
    rintro x w3 ⟨rfl, hrd, hgr⟩
    rw [HC.out] at hrd ⊢
    simp only at hrd ⊢
    replace rs := rs.call hrd hgr
    clear hrd hgr
    have fz := World.ownsRow.frozenAt rs.ev 2
    have fc := World.ownsRow.cellAt rs.ev 2 (by omega)
    simp only [List.getElem?_cons_succ, List.getElem?_cons_zero] at fc
    replace rs := rs.set 2 (.int .i64 (c1 : Int))
    simp only [List.set_cons_zero, List.set_cons_succ] at rs
    go_wp2_with fail
    clear fz fc
    refine (number_any _ _ A n c c2 c3 l _ rs.rd (hs.below rs.bl) hn).mono ?_
    rintro x w4 ⟨rfl, hrd, hgr⟩
    rw [HD.out] at hrd ⊢
    simp only at hrd ⊢
    replace rs := rs.call hrd hgr
    clear hrd hgr
    have fz := World.ownsRow.frozenAt rs.ev 3
    have fc := World.ownsRow.cellAt rs.ev 3 (by omega)
    simp only [List.getElem?_cons_succ, List.getElem?_cons_zero] at fc
    replace rs := rs.set 3 (.int .i64 (d1 : Int))
    simp only [List.set_cons_zero, List.set_cons_succ] at rs
    go_wp2_with fail
    clear fz fc
    refine (rsigned_any _ _ A n c d2 d3 l _ rs.rd (hs.below rs.bl) hn).mono ?_
    rintro x w5 ⟨rfl, hrd, hgr⟩
    rw [HE.out] at hrd ⊢
    simp only at hrd ⊢
    replace rs := rs.call hrd hgr
    clear hrd hgr
    have fz := World.ownsRow.frozenAt rs.ev 4
    have fc := World.ownsRow.cellAt rs.ev 4 (by omega)
    simp only [List.getElem?_cons_succ, List.getElem?_cons_zero] at fc
    replace rs := rs.set 4 (.int .i64 e1)
    simp only [List.set_cons_zero, List.set_cons_succ] at rs
    go_wp2_with fail
    clear fz fc
    refine (number_any _ _ A n c e2 e3 l _ rs.rd (hs.below rs.bl) hn).mono ?_
    rintro x w6 ⟨rfl, hrd, hgr⟩
    rw [HF.out] at hrd ⊢
    simp only at hrd ⊢
    replace rs := rs.call hrd hgr
    clear hrd hgr
    have fz := World.ownsRow.frozenAt rs.ev 5
    have fc := World.ownsRow.cellAt rs.ev 5 (by omega)
    simp only [List.getElem?_cons_succ, List.getElem?_cons_zero] at fc
    replace rs := rs.set 5 (.int .i64 (f1 : Int))
    simp only [List.set_cons_zero, List.set_cons_succ] at rs
    go_wp2_with fail
    clear fz fc
    refine (text_any _ _ A n c f2 f3 l _ rs.rd (hs.below rs.bl) hn).mono ?_
    rintro x w7 ⟨rfl, hrd, hgr⟩
    rw [HS.out] at hrd ⊢
    simp only at hrd ⊢
    replace rs := rs.call hrd hgr
    clear hrd hgr
    have fz := World.ownsRow.frozenAt rs.ev 6
    have fc := World.ownsRow.cellAt rs.ev 6 (by omega)
    have fz0 := World.ownsRow.frozenAt rs.ev 0
    have fc0 := World.ownsRow.cellAt rs.ev 0 (by omega)
    simp only [List.getElem?_cons_succ, List.getElem?_cons_zero] at fc fc0
    go_upto_block 0 with fail
    clear fz fc fz0 fc0
    --@endsteps
    replace rs := (rs.set 6 (.string (bstr s1))).set 0 (.int .u8 ((a1 : Int) % 256))
    simp only [List.set_cons_zero, List.set_cons_succ] at rs
    generalize (w7.setCell ⟨w.heap.size + 1 + 1, 6, none⟩ (.string (bstr s1))).setCell ⟨w.heap.size + 1 + 1, 0, none⟩ (.int .u8 ((a1 : Int) % 256)) = W8 at *
    have gc2 := World.ownsRow.cellAt rs.rd 2 (by omega)
    simp only [List.getElem?_cons_succ, List.getElem?_cons_zero] at gc2
    by_cases hs3 : s3 = 0
    · subst hs3
      have k0 := World.ownsRow.cellAt rs.ev 0 (by omega)
      have k1 := World.ownsRow.cellAt rs.ev 1 (by omega)
      have k2 := World.ownsRow.cellAt rs.ev 2 (by omega)
      have k3 := World.ownsRow.cellAt rs.ev 3 (by omega)
      have k4 := World.ownsRow.cellAt rs.ev 4 (by omega)
      have k5 := World.ownsRow.cellAt rs.ev 5 (by omega)
      have k6 := World.ownsRow.cellAt rs.ev 6 (by omega)
      simp only [List.getElem?_cons_succ, List.getElem?_cons_zero] at k0 k1 k2 k3 k4 k5 k6
      by_cases hk : 255 < a1
      · obtain rfl : pr = (.zero, 0, 102) := by rw [HP.out, if_neg (by simp), if_pos hk]
        clear k0 k1 k2 k3 k4 k5 k6
        have st := stored7 rs.res (.int .u8 0) (.int .i64 0) (.int .i64 0) (.int .i64 0) (.int .i64 0) (.int .i64 0) (.string { data := #[] })
        have y0 := World.ownsRow.cellAt rs.res 0 (by omega)
        have y1 := World.ownsRow.cellAt rs.res 1 (by omega)
        have y2 := World.ownsRow.cellAt rs.res 2 (by omega)
        have y3 := World.ownsRow.cellAt rs.res 3 (by omega)
        have y4 := World.ownsRow.cellAt rs.res 4 (by omega)
        have y5 := World.ownsRow.cellAt rs.res 5 (by omega)
        have y6 := World.ownsRow.cellAt rs.res 6 (by omega)
        have x0 := World.ownsRow.frozenAt rs.res 0
        have x1 := World.ownsRow.frozenAt rs.res 1
        have x2 := World.ownsRow.frozenAt rs.res 2
        have x3 := World.ownsRow.frozenAt rs.res 3
        have x4 := World.ownsRow.frozenAt rs.res 4
        have x5 := World.ownsRow.frozenAt rs.res 5
        have x6 := World.ownsRow.frozenAt rs.res 6
        simp only [Ev.zero, Ev.cells, List.getElem?_cons_succ, List.getElem?_cons_zero] at y0 y1 y2 y3 y4 y5 y6
        go_wp2_with fail
        refine bodyPost_ret (results_cell2 rfl _ _ _ ⟨w.heap.size, 0, none⟩ rfl _ (load_own st.1)) rfl ?_
        exact ⟨rfl, rs.bl.grown st.2 rs.bl.size (fun k hk => by cases hk; exact Nat.le_refl _)⟩
      · have hk2 : (a1 : Int) % 256 = (a1 : Int) := by omega
        have hk3 : a1 ≤ 255 := by omega
        rw [hk2] at rs k0
        obtain ⟨z, hz⟩ : ∃ z, rightB ⟨a1, (b1 : Nat), (c1 : Nat), (d1 : Nat), e1, (f1 : Nat), s1⟩ = z := ⟨_, rfl⟩
        go_wp2_with fail
        refine (right_any ⟨a1, (b1 : Nat), (c1 : Nat), (d1 : Nat), e1, (f1 : Nat), s1⟩ _ (by show a1 < 256; omega)).mono ?_
        rintro x w9 ⟨rfl, hb9⟩
        rw [hz]
        replace rs := rs.below hb9
        clear k0 k1 k2 k3 k4 k5 k6 gc2 hb9
        cases z with
        | false =>
          obtain rfl : pr = (.zero, 0, 102) := by rw [HP.out, if_neg (by simp), if_neg hk, if_pos hz]
          clear hz HP
          have st := stored7 rs.res (.int .u8 0) (.int .i64 0) (.int .i64 0) (.int .i64 0) (.int .i64 0) (.int .i64 0) (.string { data := #[] })
          have y0 := World.ownsRow.cellAt rs.res 0 (by omega)
          have y1 := World.ownsRow.cellAt rs.res 1 (by omega)
          have y2 := World.ownsRow.cellAt rs.res 2 (by omega)
          have y3 := World.ownsRow.cellAt rs.res 3 (by omega)
          have y4 := World.ownsRow.cellAt rs.res 4 (by omega)
          have y5 := World.ownsRow.cellAt rs.res 5 (by omega)
          have y6 := World.ownsRow.cellAt rs.res 6 (by omega)
          have x0 := World.ownsRow.frozenAt rs.res 0
          have x1 := World.ownsRow.frozenAt rs.res 1
          have x2 := World.ownsRow.frozenAt rs.res 2
          have x3 := World.ownsRow.frozenAt rs.res 3
          have x4 := World.ownsRow.frozenAt rs.res 4
          have x5 := World.ownsRow.frozenAt rs.res 5
          have x6 := World.ownsRow.frozenAt rs.res 6
          simp only [Ev.zero, Ev.cells, List.getElem?_cons_succ, List.getElem?_cons_zero] at y0 y1 y2 y3 y4 y5 y6
          go_wp2_with fail
          refine bodyPost_ret (results_cell2 rfl _ _ _ ⟨w.heap.size, 0, none⟩ rfl _ (load_own st.1)) rfl ?_
          exact ⟨rfl, rs.bl.grown st.2 rs.bl.size (fun k hk => by cases hk; exact Nat.le_refl _)⟩
        | true =>
          obtain rfl : pr = (⟨a1, (b1 : Nat), (c1 : Nat), (d1 : Nat), e1, (f1 : Nat), s1⟩, s2, 0) := by rw [HP.out, if_neg (by simp), if_neg hk, if_neg (by rw [hz]; simp)]
          clear hz HP HA HB HC HD HE HF HS
          go_wp2_with fail
          --@region 28 17 readok17.spec
          refine wp_region_runN [5] (fun _ w2 => Jev w.heap.size w.heap.size Ev.zero.cells w2) (by kernel_rfl) (by kernel_rfl) (by kernel_rfl) (R := Rr w.heap.size) (fun _ _ h => below_grownBy h _) (fun _ _ _ => grownBy_trans) (Jev_stable _ _ _) rs.res ?_
          apply RunN.pure (by decide)
          · intro vs w hb hd; clear hd; have hev := Own.apart rs.ev hb rs.hr; have k0 := World.ownsRow.cellAt hev 0 (by omega); have k1 := World.ownsRow.cellAt hev 1 (by omega); have k2 := World.ownsRow.cellAt hev 2 (by omega); have k3 := World.ownsRow.cellAt hev 3 (by omega); have k4 := World.ownsRow.cellAt hev 4 (by omega); have k5 := World.ownsRow.cellAt hev 5 (by omega); have k6 := World.ownsRow.cellAt hev 6 (by omega); simp only [List.getElem?_cons_succ, List.getElem?_cons_zero] at k0 k1 k2 k3 k4 k5 k6; clear hev; simp only [List.take, putL, Act.put, List.setIfInBounds_toArray, List.set_cons_zero, List.set_cons_succ]; unfold StepOK; go_simp; exact ⟨Below.refl _ _, isV_mk _ _⟩
          apply RunN.pure (by decide)
          · intro vs w hb hd; clear hd; simp only [List.take, putL, Act.put, List.setIfInBounds_toArray, List.set_cons_zero, List.set_cons_succ]; unfold StepOK; go_simp; exact ⟨Below.refl _ _, isV_mk _ _⟩
          apply RunN.pure (by decide)
          · intro vs w hb hd; have d1 : isV _ (vs 1) w := hd 1 (by decide) (by kernel_rfl); unfold isV at d1; clear hd; simp only [List.take, putL, Act.put, List.setIfInBounds_toArray, List.set_cons_zero, List.set_cons_succ]; unfold StepOK; go_simp; exact ⟨Below.refl _ _, isV_mk _ _⟩
          apply RunN.pure (by decide)
          · intro vs w hb hd; have d2 : isV _ (vs 2) w := hd 2 (by decide) (by kernel_rfl); unfold isV at d2; clear hd; simp only [List.take, putL, Act.put, List.setIfInBounds_toArray, List.set_cons_zero, List.set_cons_succ]; unfold StepOK; go_simp; exact ⟨Below.refl _ _, isV_mk _ _⟩
          apply RunN.pure (by decide)
          · intro vs w hb hd; have d3 : isV _ (vs 3) w := hd 3 (by decide) (by kernel_rfl); unfold isV at d3; clear hd; have hc := World.ownsRow.cellAt (Own.apart rs.rd hb rs.gr) 1 (by omega); simp only [List.getElem?_cons_succ, List.getElem?_cons_zero] at hc; simp only [List.take, putL, Act.put, List.setIfInBounds_toArray, List.set_cons_zero, List.set_cons_succ]; unfold StepOK; go_simp; exact ⟨Below.refl _ _, isV_mk _ _⟩
          refine RunN.store (by decide) (Jev w.heap.size w.heap.size [.int .u8 (a1 : Int), .int .i64 (b1 : Int), .int .i64 (c1 : Int), .int .i64 (d1 : Int), .int .i64 e1, .int .i64 (f1 : Int), .string (bstr s1)]) (Jev_stable _ _ _) ?_ ?_
          · intro vs w hb hd hj; have d0 : isV _ (vs 0) w := hd 0 (by decide) (by kernel_rfl); unfold isV at d0; clear hd; have hj2 := hj; (try simp only [prevE, lastV, List.mem_cons, List.not_mem_nil, or_false, Nat.reduceEqDiff, Nat.reduceAdd, if_true, if_false, reduceIte, or_true, true_or, or_self] at hj2); clear hj; unfold Jev at hj2; have y0 := World.ownsRow.cellAt hj2 0 (by omega); have x0 := World.ownsRow.frozenAt hj2 0; have y1 := World.ownsRow.cellAt hj2 1 (by omega); have x1 := World.ownsRow.frozenAt hj2 1; have y2 := World.ownsRow.cellAt hj2 2 (by omega); have x2 := World.ownsRow.frozenAt hj2 2; have y3 := World.ownsRow.cellAt hj2 3 (by omega); have x3 := World.ownsRow.frozenAt hj2 3; have y4 := World.ownsRow.cellAt hj2 4 (by omega); have x4 := World.ownsRow.frozenAt hj2 4; have y5 := World.ownsRow.cellAt hj2 5 (by omega); have x5 := World.ownsRow.frozenAt hj2 5; have y6 := World.ownsRow.cellAt hj2 6 (by omega); have x6 := World.ownsRow.frozenAt hj2 6; simp only [Ev.zero, Ev.cells, List.getElem?_cons_succ, List.getElem?_cons_zero] at y0 y1 y2 y3 y4 y5 y6; have st := stored7 hj2 (.int .u8 (a1 : Int)) (.int .i64 (b1 : Int)) (.int .i64 (c1 : Int)) (.int .i64 (d1 : Int)) (.int .i64 e1) (.int .i64 (f1 : Int)) (.string (bstr s1)); clear hj2; simp only [List.take, putL, Act.put, List.setIfInBounds_toArray, List.set_cons_zero, List.set_cons_succ]; unfold StepE; go_simp; exact ⟨st.2, st.1⟩
          apply RunN.pure (by decide)
          · intro vs w hb hd; have d0 : isV _ (vs 0) w := hd 0 (by decide) (by kernel_rfl); unfold isV at d0; have d1 : isV _ (vs 1) w := hd 1 (by decide) (by kernel_rfl); unfold isV at d1; have d2 : isV _ (vs 2) w := hd 2 (by decide) (by kernel_rfl); unfold isV at d2; have d3 : isV _ (vs 3) w := hd 3 (by decide) (by kernel_rfl); unfold isV at d3; have d4 : isV _ (vs 4) w := hd 4 (by decide) (by kernel_rfl); unfold isV at d4; clear hd; simp only [List.take, putL, Act.put, List.setIfInBounds_toArray, List.set_cons_zero, List.set_cons_succ]; unfold StepOK; go_simp; exact ⟨Below.refl _ _, isV_mk _ _⟩
          apply RunN.pure (by decide)
          · intro vs w hb hd; have d0 : isV _ (vs 0) w := hd 0 (by decide) (by kernel_rfl); unfold isV at d0; have d1 : isV _ (vs 1) w := hd 1 (by decide) (by kernel_rfl); unfold isV at d1; have d2 : isV _ (vs 2) w := hd 2 (by decide) (by kernel_rfl); unfold isV at d2; have d3 : isV _ (vs 3) w := hd 3 (by decide) (by kernel_rfl); unfold isV at d3; have d4 : isV _ (vs 4) w := hd 4 (by decide) (by kernel_rfl); unfold isV at d4; have d6 : isV _ (vs 6) w := hd 6 (by decide) (by kernel_rfl); unfold isV at d6; clear hd; simp only [List.take, putL, Act.put, List.setIfInBounds_toArray, List.set_cons_zero, List.set_cons_succ]; unfold StepOK; go_simp; exact ⟨Below.refl _ _, isV_mk _ _⟩
          intro vs w1 hb hd hj
          try simp only [prevE, lastV, List.mem_cons, List.not_mem_nil, or_false, Nat.reduceEqDiff, Nat.reduceAdd, if_true, if_false, reduceIte, or_true, true_or, or_self] at hj
          have e0 : isV _ (vs 0) w1 := hd 0 (by decide)
          have e1 : isV _ (vs 1) w1 := hd 1 (by decide)
          have e2 : isV _ (vs 2) w1 := hd 2 (by decide)
          have e3 : isV _ (vs 3) w1 := hd 3 (by decide)
          have e4 : isV _ (vs 4) w1 := hd 4 (by decide)
          have e6 : isV _ (vs 6) w1 := hd 6 (by decide)
          have e7 : isV _ (vs 7) w1 := hd 7 (by decide)
          clear hd
          unfold isV at e0 e1 e2 e3 e4 e6 e7
          simp only [putL, Act.put, List.setIfInBounds_toArray, List.set_cons_zero, List.set_cons_succ, e0, e1, e2, e3, e4, e6, e7]
          clear e0 e1 e2 e3 e4 e6 e7
          --@end
          unfold Jev at hj
          go_wp2_with fail
          refine bodyPost_ret (results_cell2 rfl _ _ _ ⟨w.heap.size, 0, none⟩ rfl _ (load_own hj)) rfl ?_
          exact ⟨rfl, rs.bl.grown hb rs.bl.size (fun k hk => by cases hk; exact Nat.le_refl _)⟩
    · obtain rfl : pr = (.zero, 0, s3) := by rw [HP.out, if_pos hs3]
      have hs30 : 0 < s3 := by omega
      clear HP HA HB HC HD HE HF HS
      go_wp2_with fail
      --@region 28 14 readbad14.spec
      refine wp_region_runN [5] (fun _ w2 => Jev w.heap.size w.heap.size Ev.zero.cells w2) (by kernel_rfl) (by kernel_rfl) (by kernel_rfl) (R := Rr w.heap.size) (fun _ _ h => below_grownBy h _) (fun _ _ _ => grownBy_trans) (Jev_stable _ _ _) rs.res ?_
      apply RunN.pure (by decide)
      · intro vs w hb hd; clear hd; simp only [List.take, putL, Act.put, List.setIfInBounds_toArray, List.set_cons_zero, List.set_cons_succ]; unfold StepOK; go_simp; exact ⟨Below.refl _ _, isV_mk _ _⟩
      apply RunN.pure (by decide)
      · intro vs w hb hd; clear hd; simp only [List.take, putL, Act.put, List.setIfInBounds_toArray, List.set_cons_zero, List.set_cons_succ]; unfold StepOK; go_simp; exact ⟨Below.refl _ _, isV_mk _ _⟩
      apply RunN.pure (by decide)
      · intro vs w hb hd; have d1 : isV _ (vs 1) w := hd 1 (by decide) (by kernel_rfl); unfold isV at d1; clear hd; simp only [List.take, putL, Act.put, List.setIfInBounds_toArray, List.set_cons_zero, List.set_cons_succ]; unfold StepOK; go_simp; exact ⟨Below.refl _ _, isV_mk _ _⟩
      apply RunN.pure (by decide)
      · intro vs w hb hd; have d2 : isV _ (vs 2) w := hd 2 (by decide) (by kernel_rfl); unfold isV at d2; clear hd; simp only [List.take, putL, Act.put, List.setIfInBounds_toArray, List.set_cons_zero, List.set_cons_succ]; unfold StepOK; go_simp; exact ⟨Below.refl _ _, isV_mk _ _⟩
      apply RunN.pure (by decide)
      · intro vs w hb hd; have d3 : isV _ (vs 3) w := hd 3 (by decide) (by kernel_rfl); unfold isV at d3; clear hd; have hc := World.ownsRow.cellAt (Own.apart rs.rd hb rs.gr) 2 (by omega); simp only [List.getElem?_cons_succ, List.getElem?_cons_zero] at hc; simp only [List.take, putL, Act.put, List.setIfInBounds_toArray, List.set_cons_zero, List.set_cons_succ]; unfold StepOK; go_simp; exact ⟨Below.refl _ _, isV_mk _ _⟩
      refine RunN.store (by decide) (Jev w.heap.size w.heap.size Ev.zero.cells) (Jev_stable _ _ _) ?_ ?_
      · intro vs w hb hd hj; have d0 : isV _ (vs 0) w := hd 0 (by decide) (by kernel_rfl); unfold isV at d0; clear hd; have hj2 := hj; (try simp only [prevE, lastV, List.mem_cons, List.not_mem_nil, or_false, Nat.reduceEqDiff, Nat.reduceAdd, if_true, if_false, reduceIte, or_true, true_or, or_self] at hj2); clear hj; unfold Jev at hj2; have y0 := World.ownsRow.cellAt hj2 0 (by omega); have x0 := World.ownsRow.frozenAt hj2 0; have y1 := World.ownsRow.cellAt hj2 1 (by omega); have x1 := World.ownsRow.frozenAt hj2 1; have y2 := World.ownsRow.cellAt hj2 2 (by omega); have x2 := World.ownsRow.frozenAt hj2 2; have y3 := World.ownsRow.cellAt hj2 3 (by omega); have x3 := World.ownsRow.frozenAt hj2 3; have y4 := World.ownsRow.cellAt hj2 4 (by omega); have x4 := World.ownsRow.frozenAt hj2 4; have y5 := World.ownsRow.cellAt hj2 5 (by omega); have x5 := World.ownsRow.frozenAt hj2 5; have y6 := World.ownsRow.cellAt hj2 6 (by omega); have x6 := World.ownsRow.frozenAt hj2 6; simp only [Ev.zero, Ev.cells, List.getElem?_cons_succ, List.getElem?_cons_zero] at y0 y1 y2 y3 y4 y5 y6; have st := stored7 hj2 (.int .u8 0) (.int .i64 0) (.int .i64 0) (.int .i64 0) (.int .i64 0) (.int .i64 0) (.string { data := #[] }); clear hj2; simp only [List.take, putL, Act.put, List.setIfInBounds_toArray, List.set_cons_zero, List.set_cons_succ]; unfold StepE; go_simp; exact ⟨st.2, st.1⟩
      apply RunN.pure (by decide)
      · intro vs w hb hd; have d0 : isV _ (vs 0) w := hd 0 (by decide) (by kernel_rfl); unfold isV at d0; clear hd; simp only [List.take, putL, Act.put, List.setIfInBounds_toArray, List.set_cons_zero, List.set_cons_succ]; unfold StepOK; go_simp; exact ⟨Below.refl _ _, isV_mk _ _⟩
      apply RunN.pure (by decide)
      · intro vs w hb hd; have d0 : isV _ (vs 0) w := hd 0 (by decide) (by kernel_rfl); unfold isV at d0; have d1 : isV _ (vs 1) w := hd 1 (by decide) (by kernel_rfl); unfold isV at d1; have d2 : isV _ (vs 2) w := hd 2 (by decide) (by kernel_rfl); unfold isV at d2; have d3 : isV _ (vs 3) w := hd 3 (by decide) (by kernel_rfl); unfold isV at d3; have d4 : isV _ (vs 4) w := hd 4 (by decide) (by kernel_rfl); unfold isV at d4; have d6 : isV _ (vs 6) w := hd 6 (by decide) (by kernel_rfl); unfold isV at d6; clear hd; simp only [List.take, putL, Act.put, List.setIfInBounds_toArray, List.set_cons_zero, List.set_cons_succ]; unfold StepOK; go_simp; exact ⟨Below.refl _ _, isV_mk _ _⟩
      intro vs w1 hb hd hj
      try simp only [prevE, lastV, List.mem_cons, List.not_mem_nil, or_false, Nat.reduceEqDiff, Nat.reduceAdd, if_true, if_false, reduceIte, or_true, true_or, or_self] at hj
      have e0 : isV _ (vs 0) w1 := hd 0 (by decide)
      have e1 : isV _ (vs 1) w1 := hd 1 (by decide)
      have e2 : isV _ (vs 2) w1 := hd 2 (by decide)
      have e3 : isV _ (vs 3) w1 := hd 3 (by decide)
      have e4 : isV _ (vs 4) w1 := hd 4 (by decide)
      have e6 : isV _ (vs 6) w1 := hd 6 (by decide)
      have e7 : isV _ (vs 7) w1 := hd 7 (by decide)
      clear hd
      unfold isV at e0 e1 e2 e3 e4 e6 e7
      simp only [putL, Act.put, List.setIfInBounds_toArray, List.set_cons_zero, List.set_cons_succ, e0, e1, e2, e3, e4, e6, e7]
      clear e0 e1 e2 e3 e4 e6 e7
      --@end
      unfold Jev at hj
      go_wp2_with fail
      refine bodyPost_ret (results_cell2 rfl _ _ _ ⟨w.heap.size, 0, none⟩ rfl _ (load_own hj)) rfl ?_
      exact ⟨rfl, rs.bl.grown hb rs.bl.size (fun k hk => by cases hk; exact Nat.le_refl _)⟩
end Go.Proofs.Ytphjmbhlokkdiaa
