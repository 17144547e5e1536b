import Derived.Test.YtemegkapmgcffaaDlC
import Derived.Test.YtemegkapmgcffaaPureFuse
/- Two disks, and rows that are none of theirs; alike. -/
namespace Go.Proofs.Ytemegkapmgcffaa
open Go.RowKit
set_option linter.unusedSimpArgs false
set_option linter.unusedVariables false

/-- G: blocks that are none of the two disks' -/
def DskP (W w : World) (pa : Nat) (Da : Dk) (pb : Nat) (Db : Dk) (G : Nat → Prop) : Prop := ∃ Fa Fb, DkIs w W.heap.size pa Da Fa ∧ DkIs w W.heap.size pb Db Fb ∧ (∀ q, Fa q → ¬ Fb q) ∧ Below W.heap.size W w ∧ ∀ q, G q → q < w.heap.size ∧ ¬ Fa q ∧ ¬ Fb q
section
variable {W w : World} {pa pb : Nat} {Da Db : Dk} {G : Nat → Prop}
theorem DskP.swap (h : DskP W w pa Da pb Db G) : DskP W w pb Db pa Da G := by
  obtain ⟨Fa, Fb, h1, h2, h3, h4, h5⟩ := h
  exact ⟨Fb, Fa, h2, h1, fun q hq hf => h3 q hf hq, h4, fun q hq => ⟨(h5 q hq).1, (h5 q hq).2.2, (h5 q hq).2.1⟩⟩
theorem DskP.two (h : DskP W w pa Da pb Db G) : Dsk2 W w pa Da pb Db := by
  obtain ⟨Fa, Fb, h1, h2, h3, h4, h5⟩ := h
  exact ⟨Fa, Fb, h1, h2, h3, h4⟩
theorem DskP.bel (h : DskP W w pa Da pb Db G) : Below W.heap.size W w := h.two.bel
theorem DskP.below {w' : World} (h : DskP W w pa Da pb Db G) (hb : Below w.heap.size w w') : DskP W w' pa Da pb Db G := by
  obtain ⟨Fa, Fb, h1, h2, h3, h4, h5⟩ := h
  exact ⟨Fa, Fb, h1.below hb, h2.below hb, h3, h4.trans (hb.mono h4.size), fun q hq => ⟨Nat.lt_of_lt_of_le (h5 q hq).1 hb.size, (h5 q hq).2⟩⟩
/-- what has come since is none of theirs -/
theorem Dsk2.part {w' : World} (h : Dsk2 W w pa Da pb Db) (hb : Below w.heap.size w w') : DskP W w' pa Da pb Db (fun q => w.heap.size ≤ q ∧ q < w'.heap.size) := by
  obtain ⟨Fa, Fb, h1, h2, h3, h4⟩ := h
  exact ⟨Fa, Fb, h1.below hb, h2.below hb, h3, h4.trans (hb.mono h4.size), fun q hq => ⟨hq.2, fun hf => by have := (h1.bound q hf).2; omega, fun hf => by have := (h2.bound q hf).2; omega⟩⟩
theorem DskP.step {P : Ending → Prop} {f : FuncId} {args : Array Value} {D' : Dk} (h : DskP W w pa Da pb Db G)
    (hc : ∀ F, DkIs w W.heap.size pa Da F → Calls Try.prog f args w fun x w' => P x ∧ ∃ F', DkIs w' W.heap.size pa D' F' ∧ Cg F F' w w') :
    Calls Try.prog f args w fun x w' => P x ∧ DskP W w' pa D' pb Db G ∧ ∀ q, G q → w'.heap[q]? = w.heap[q]? := by
  obtain ⟨Fa, Fb, h1, h2, h3, h4, h5⟩ := h
  refine (hc Fa h1).mono fun x w' ⟨k1, F', k2, k3⟩ => ⟨k1, ⟨F', Fb, k2, h2.away k3 (fun q hq hf => h3 q hf hq), fun q hq hf => ?_, h4.trans (k3.bel (fun q hq => (h1.bound q hq).1) h4.size), fun q hq => ⟨Nat.lt_of_lt_of_le (h5 q hq).1 k3.size, fun hf => ?_, (h5 q hq).2.2⟩⟩, fun q hq => k3.block q (h5 q hq).1 (h5 q hq).2.1⟩
  · rcases k3.new q hq with h6 | h6
    · exact h3 q h6 hf
    · have := (h2.bound q hf).2; omega
  · rcases k3.new q hf with h6 | h6
    · exact (h5 q hq).2.1 h6
    · have := (h5 q hq).1; omega
end
def SameD (Da Db : Dk) : Prop := Da.fs = Db.fs ∧ Da.dark = false ∧ Db.dark = false
theorem same_tx {Da Db : Dk} (h : SameD Da Db) : txV Da = txV Db ∧ sfV Da = sfV Db ∧ nmV Da.fs = nmV Db.fs := by
  obtain ⟨h1, h2, h3⟩ := h
  have hr : ∀ nm, (readD Da nm).1 = (readD Db nm).1 := fun nm => by unfold readD; rw [if_neg (show ¬ Da.dark = true by rw [h2]; simp), if_neg (show ¬ Db.dark = true by rw [h3]; simp), h1]
  refine ⟨?_, ?_, by rw [h1]⟩
  · unfold txV
    rw [h1]
    simp only [hr]
  · unfold sfV
    rw [h1]
section
variable {W w : World} {pa pb : Nat} {Da Db : Dk}
theorem snap_dsk2 (h : Dsk2 W w pa Da pb Db) : Calls Try.prog 58 #[.pointer (some ⟨pa, 0, none⟩)] w fun x w' => ∃ A a B b E e, x = .returned (.tuple #[.slice A Da.fs.length a, .slice B Da.fs.length b, .slice E Da.fs.length e]) ∧ Own w.heap.size 9 1 w' A Da.fs.length a (nmV Da.fs) ∧ Own w.heap.size 9 1 w' B Da.fs.length b (txV Da) ∧ Own w.heap.size 3 1 w' E Da.fs.length e (sfV Da) ∧ Below w.heap.size w w' ∧ Dsk2 W w' pa Da pb Db := by
  have h0 := h
  obtain ⟨Fa, Fb, h1, h2, h3, h4⟩ := h
  exact (snap_own h1).mono fun x w' ⟨A, a, B, b, E, e, k1, k2, k3, k4, k5⟩ => ⟨A, a, B, b, E, e, k1, k2, k3, k4, k5, h0.below k5⟩
set_option maxRecDepth 100000 in
set_option maxHeartbeats 8000000 in
theorem alike_any (h : Dsk2 W w pa Da pb Db) (hs : SameD Da Db) : Calls Try.prog 59 #[.pointer (some ⟨pa, 0, none⟩), .pointer (some ⟨pb, 0, none⟩)] w fun x w' => x = .returned (.bool true) ∧ Below w.heap.size w w' := by
  have hst := same_tx hs
  have Hst := Lib.hid hst
  have hfs := hs.1
  have Hfs := Lib.hid hfs
  have hfew := h.good.few
  have H := Lib.hid h
  clear hst hfs h hs
  go_enter Try.func59, Try.ntmps59
  go_wp2_with fail
  refine (snap_dsk2 H.out).mono ?_; rintro x w1 ⟨A1, a1, A2, a2, A3, a3, rfl, o1, o2, o3, hb1, d1⟩
  obtain ⟨n, hn⟩ : ∃ n, n = Da.fs.length := ⟨_, rfl⟩
  rw [← hn] at o1 o2 o3 hfew
  rw [← hn]
  have Hn := Lib.hid hn
  have O1 := Lib.hid o1
  have O2 := Lib.hid o2
  have O3 := Lib.hid o3
  have Hb1 := Lib.hid hb1
  have D1 := Lib.hid d1
  clear hn o1 o2 o3 hb1 d1
  go_wp2_with fail
  refine (snap_dsk2 D1.out.swap).mono ?_; rintro x w2 ⟨A4, a4, A5, a5, A6, a6, rfl, o4, o5, o6, hb2, d2⟩
  rw [← Hst.out.2.2, ← Hfs.out, ← Hn.out] at o4
  rw [← Hst.out.1, ← Hfs.out, ← Hn.out] at o5
  rw [← Hst.out.2.1, ← Hfs.out, ← Hn.out] at o6
  rw [← Hfs.out, ← Hn.out]
  have S1 := Lib.hid (O1.out.below hb2).sl
  have S2 := Lib.hid (O2.out.below hb2).sl
  have S3 := Lib.hid (O3.out.below hb2).sl
  have S4 := Lib.hid o4.sl
  have S5 := Lib.hid o5.sl
  have S6 := Lib.hid o6.sl
  have Hb2 := Lib.hid (Hb1.out.trans (hb2.mono Hb1.out.size))
  have D2 := Lib.hid d2.swap
  clear o4 o5 o6 hb2 d2 O1 O2 O3 Hb1 D1 H
  go_wp2_with fail
  refine (used_dsk2 D2.out).mono ?_; rintro x w3 ⟨rfl, hb3, d3⟩
  have D3 := Lib.hid d3.swap
  have Hb3 := Lib.hid hb3
  clear d3 hb3
  go_wp2_with fail
  refine (used_dsk2 D3.out).mono ?_; rintro x w4 ⟨rfl, hb4, d4⟩
  rw [← Hfs.out]
  have Hb4 := Lib.hid (Hb3.out.trans (hb4.mono Hb3.out.size))
  clear d4 hb4 Hb3
  obtain ⟨us, hus⟩ : ∃ us, us = usedF Da.fs := ⟨_, rfl⟩
  rw [← hus]
  clear hus
  go_wp2_with fail
  go_loopw [38] (fun s38 wx => ∃ i : Nat, i ≤ n ∧ s38 = .int .i64 (i : Int) ∧ Hid (Below w2.heap.size w2 wx)) (fun iv _ => n - (intOf iv).toNat)
  case atStart => exact ⟨0, by omega, rfl, Hb4⟩
  case round =>
    obtain ⟨i, hi, rfl, HB⟩ := hrel
    by_cases h1 : (i : Int) < (n : Int)
    · obtain ⟨f, hf⟩ := get_some Da.fs i (by rw [← Hn.out]; omega)
      have v1 : (nmV Da.fs)[i]? = some (.string (bstr f.nm)) := by unfold nmV; rw [List.getElem?_map, hf]; rfl
      have v2 : (txV Da)[i]? = some (.string (bstr (readD Da f.nm).1)) := by unfold txV; rw [List.getElem?_map, hf]; rfl
      have v3 : (sfV Da)[i]? = some (.int .i64 ((lookF Da.fs f.nm).safe : Int)) := by unfold sfV; rw [List.getElem?_map, hf]; rfl
      obtain ⟨g1, rfl, q1⟩ := (S1.out.below HB.out).cells i _ v1
      obtain ⟨g2, rfl, q2⟩ := (S2.out.below HB.out).cells i _ v2
      obtain ⟨g3, rfl, q3⟩ := (S3.out.below HB.out).cells i _ v3
      obtain ⟨g4, rfl, q4⟩ := (S4.out.below HB.out).cells i _ v1
      obtain ⟨g5, rfl, q5⟩ := (S5.out.below HB.out).cells i _ v2
      obtain ⟨g6, rfl, q6⟩ := (S6.out.below HB.out).cells i _ v3
      have hin : (0 : Int) ≤ (i : Int) ∧ (i : Int) < (n : Int) := by omega
      obtain ⟨tx, htx⟩ : ∃ tx, tx = (readD Da f.nm).1 := ⟨_, rfl⟩
      obtain ⟨sf, hsf⟩ : ∃ sf, sf = (lookF Da.fs f.nm).safe := ⟨_, rfl⟩
      rw [← htx] at q2 q5
      rw [← hsf] at q3 q6
      clear v1 v2 v3 htx hsf hf
      go_upto_region 8 with fail
      go_quiet (fail)
      have HB6 := Lib.hid (HB.out.trans (below_drewN (Below.refl _ _) nq |>.mono HB.out.size))
      clear q1 q2 q3 q4 q5 q6 HB
      generalize wr.drewN nq = w6 at *
      go_wp2_with fail
      go_roundw
      case rel => exact ⟨i + 1, by omega, by go_num, HB6⟩
      case measure => simp [intOf]; omega
    · obtain rfl : n = i := by omega
      have HBf := Lib.hid (Hb2.out.trans (HB.out.mono Hb2.out.size))
      clear HB
      go_wp2_with fail
      go_ret
      exact ⟨rfl, HBf.out⟩
end
end Go.Proofs.Ytemegkapmgcffaa
