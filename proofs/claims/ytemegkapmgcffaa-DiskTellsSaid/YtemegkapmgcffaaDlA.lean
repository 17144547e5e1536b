import Derived.Test.YtemegkapmgcffaaDkY
/- The disk: a script of deeds (done). -/
namespace Go.Proofs.Ytemegkapmgcffaa
open Go.RowKit
set_option linter.unusedSimpArgs false
set_option linter.unusedVariables false

theorem slD_addr {w : World} {A : Option Addr} {m d : Nat} {es : List Ded} (h : Sl w 7 A m d (flatD es)) {k : Nat} {e : Ded} (hk : es[k]? = some e) : ∃ ad, A = some ad := by
  obtain ⟨a, h1, h2⟩ := h.cells (k * 7 + 0) _ (flatMap_get dedC 7 (fun _ => rfl) hk (j := 0) rfl)
  exact ⟨a, h1⟩
theorem slD_seven {w : World} {ad : Addr} {m d : Nat} {es : List Ded} (h : Sl w 7 (some ad) m d (flatD es)) {k : Nat} {e : Ded} (hk : es[k]? = some e) :
    w.cell? (ad.add (k * 7)) = some (.int .u8 e.op) ∧ w.cell? { block := (ad.add (k * 7)).block, off := (ad.add (k * 7)).off + 1, spot := none } = some (.string (bstr e.a)) ∧
    w.cell? { block := (ad.add (k * 7)).block, off := (ad.add (k * 7)).off + 2, spot := none } = some (.string (bstr e.t2)) ∧ w.cell? { block := (ad.add (k * 7)).block, off := (ad.add (k * 7)).off + 3, spot := none } = some (.slice e.bA e.b.length e.bc) ∧
    w.cell? { block := (ad.add (k * 7)).block, off := (ad.add (k * 7)).off + 4, spot := none } = some (.int .i64 e.n) ∧ w.cell? { block := (ad.add (k * 7)).block, off := (ad.add (k * 7)).off + 5, spot := none } = some (.slice e.kA e.ks.length e.kc) ∧
    w.cell? { block := (ad.add (k * 7)).block, off := (ad.add (k * 7)).off + 6, spot := none } = some (.slice e.tA e.ts.length e.tc) := by
  have key := fun j u hj => slD_at h hk j u hj
  exact ⟨key 0 _ rfl, key 1 _ rfl, key 2 _ rfl, key 3 _ rfl, key 4 _ rfl, key 5 _ rfl, key 6 _ rfl⟩
def stepD (D : Dk) (d : Ded) : Dk := if largeB d = true then D else (doesD D d).2
def doneP (D : Dk) (es : List Ded) (i : Nat) : Dk := (es.take i).foldl stepD D
theorem doneP_succ {D : Dk} {es : List Ded} {i : Nat} {d : Ded} (h : es[i]? = some d) : doneP D es (i + 1) = stepD (doneP D es i) d := by
  unfold doneP
  rw [List.take_add_one, h]
  simp
theorem does_dsk {W w : World} {p : Nat} {D : Dk} (h : Dsk W w p D) (d : Ded) (hd0 : OkDed W d) (hl : largeB d = false) :
    Calls Try.prog 47 #[.pointer (some ⟨p, 0, none⟩), .agg (dedC d).toArray] w fun x w' => x = .returned (.int .i64 (doesD D d).1) ∧ Dsk W w' p (doesD D d).2 := by
  obtain ⟨F, h1, h2⟩ := h
  exact (does_any h1 d hd0 (hd0.below h2) (Nat.le_refl _) hl).mono fun x w' ⟨k1, F', k2, k3⟩ => ⟨k1, dsk_step h1 h2 k2 k3⟩
set_option maxRecDepth 100000 in
set_option maxHeartbeats 8000000 in
theorem done_any {W : World} {A : Option Addr} {n c : Nat} {es : List Ded} (s : Sl W 7 A n c (flatD es)) (ok : ∀ e, e ∈ es → OkDed W e) (hn : n ≤ 9223372036854775807) {room : Int} (hroom : 0 ≤ room ∧ room ≤ 16777216) :
    Calls Try.prog 57 #[.int .i64 room, .slice A n c] W fun x w' => ∃ p, x = .returned (.tuple #[.pointer (some ⟨p, 0, none⟩), .bool true]) ∧ Dsk W w' p (doneP (newD room) es 40) := by
  have hln := slD_len s
  have S := Lib.hid s
  have OK := Lib.hid ok
  clear s ok
  go_enter Try.func57, Try.ntmps57
  go_wp2_with fail
  refine (new_dsk (Below.refl _ _) hroom).mono ?_; rintro x w0 ⟨p, rfl, h0⟩
  have H0 := Lib.hid h0
  have Hln := Lib.hid hln
  clear h0 hln
  go_wp2_with fail
  go_loopw [8] (fun s8 wx => ∃ i : Nat, i ≤ n ∧ i ≤ 40 ∧ s8 = .int .i64 (i : Int) ∧ Hid (Dsk W wx p (doneP (newD room) es i))) (fun iv _ => 40 - (intOf iv).toNat)
  case atStart => exact ⟨0, by omega, by omega, rfl, H0⟩
  case round =>
    obtain ⟨i, hi, hi40, rfl, HI⟩ := hrel
    by_cases h1 : (i : Int) < (n : Int)
    · by_cases h2 : (i : Int) < 40
      · obtain ⟨d, hd⟩ := get_some es i (by rw [Hln.out]; omega)
        have hs := S.out.below HI.out.bel
        obtain ⟨ad, rfl⟩ := slD_addr hs hd
        obtain ⟨y0, y1, y2, y3, y4, y5, y6⟩ := slD_seven hs hd
        have hin : (0 : Int) ≤ (i : Int) ∧ (i : Int) < (n : Int) := by omega
        have Hd := Lib.hid (OK.out d (List.mem_of_getElem? hd))
        have Hst := Lib.hid (doneP_succ (D := newD room) hd)
        clear hs hd
        go_wp2_with fail
        refine (large_any d Hd.out wr).mono ?_; rintro x w1 ⟨rfl, hb1⟩
        have z0 := cellB hb1 y0
        have z1 := cellB hb1 y1
        have z2 := cellB hb1 y2
        have z3 := cellB hb1 y3
        have z4 := cellB hb1 y4
        have z5 := cellB hb1 y5
        have z6 := cellB hb1 y6
        have HI1 := Lib.hid (HI.out.below hb1)
        clear hb1 y0 y1 y2 y3 y4 y5 y6
        cases hl : largeB d with
        | true =>
          have hst : doneP (newD room) es (i + 1) = doneP (newD room) es i := by rw [Hst.out]; unfold stepD; rw [if_pos hl]
          have HI2 := Lib.hid (show Dsk W w1 p (doneP (newD room) es (i + 1)) by rw [hst]; exact HI1.out)
          clear hst hl z0 z1 z2 z3 z4 z5 z6
          go_wp2_with fail
          go_roundw
          case rel => exact ⟨i + 1, by omega, by omega, by go_num, HI2⟩
          case measure => simp [intOf]; omega
        | false =>
          have Hl := Lib.hid hl
          clear hl
          go_wp2_with fail
          refine (does_dsk HI1.out d Hd.out Hl.out).mono ?_; rintro x w2 ⟨rfl, h5⟩
          have hst : doneP (newD room) es (i + 1) = (doesD (doneP (newD room) es i) d).2 := by rw [Hst.out]; unfold stepD; rw [if_neg (by rw [Hl.out]; simp)]
          rw [← hst] at h5
          have HI2 := Lib.hid h5
          clear hst h5 z0 z1 z2 z3 z4 z5 z6
          go_wp2_with fail
          go_roundw
          case rel => exact ⟨i + 1, by omega, by omega, by go_num, HI2⟩
          case measure => simp [intOf]; omega
      · obtain rfl : i = 40 := by omega
        go_wp2_with fail
        go_ret2
        exact ⟨p, rfl, HI.out⟩
    · obtain rfl : i = n := by omega
      have hfin : doneP (newD room) es 40 = doneP (newD room) es i := by
        unfold doneP
        rw [List.take_of_length_le (by rw [Hln.out]; omega), List.take_of_length_le (by rw [Hln.out]; omega)]
      have HF := Lib.hid (show Dsk W wr p (doneP (newD room) es 40) by rw [hfin]; exact HI.out)
      clear hfin
      go_wp2_with fail
      go_ret2
      exact ⟨p, rfl, HF.out⟩
end Go.Proofs.Ytemegkapmgcffaa
