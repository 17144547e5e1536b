import Derived.Test.YtemegkapmgcffaaDlC
/- The disk, plain: one file alone, and among others (DiskLone). -/
namespace Go.Proofs.Ytemegkapmgcffaa
open Go.RowKit
set_option linter.unusedSimpArgs false
set_option linter.unusedVariables false

abbrev nOne : Nm := [111, 110, 101]
abbrev nTwo : Nm := [116, 119, 111]
abbrev OF := Option (List UInt8 × Nat)
def fl1 (o : OF) : List Fl := match o with | none => [] | some (b, s) => [⟨nOne, b, s⟩]
def fl2 (o : OF) : List Fl := match o with | none => [] | some (b, s) => [⟨nTwo, b, s⟩]
def lenO (o : OF) : Nat := match o with | none => 0 | some (b, s) => b.length
def lo (o1 o2 : OF) : Dk := ⟨1048576, -1, false, fl1 o1 ++ fl2 o2⟩
def nextL (o : OF) (d : Ded) : Int × OF :=
  if d.op ≤ 2 then (0, match o with | none => some (d.b, 0) | some (b, s) => some (b ++ d.b, s))
  else if d.op = 3 then (match o with | none => (16, none) | some (b, s) => (0, some (b, b.length)))
  else if d.op = 5 then (match o with | none => (16, none) | some (b, s) => (0, none))
  else (match o with | none => (16, none) | some (b, s) => if d.n < 0 ∨ (b.length : Int) < d.n then (2, some (b, s)) else (0, some (b.take d.n.toNat, d.n.toNat)))
theorem lone_less : Op.bytesLess nOne nTwo = true ∧ Op.bytesLess nTwo nOne = false := by decide
theorem lone_named : namedF nOne = true ∧ namedF nTwo = true := by decide
theorem lone_one (o1 o2 : OF) (d : Ded) (ha : d.a = nOne) (hop : d.op ≤ 2 ∨ d.op = 3 ∨ d.op = 5 ∨ d.op = 6) (hl : lenO o1 + lenO o2 + d.b.length ≤ 1048576) : doesD (lo o1 o2) d = ((nextL o1 d).1, lo (nextL o1 d).2 o2) := by
  obtain ⟨l1, l2⟩ := lone_less
  obtain ⟨m1, m2⟩ := lone_named
  rcases hop with h | h | h | h
  · have e1 : doesD (lo o1 o2) d = appendD (lo o1 o2) nOne d.b := by unfold doesD; rw [if_pos h, ha]
    rw [e1]
    unfold nextL
    rw [if_pos h]
    cases o1 <;> cases o2 <;> simp [lenO] at hl <;>
      simp [appendD, m1, lo, fl1, fl2, thereF, posF, usedF, deedD, appF, insF, bl_irrefl, List.findIdx_cons, l1, l2] <;> omega
  · have e1 : doesD (lo o1 o2) d = syncD (lo o1 o2) nOne := by unfold doesD; rw [if_neg (by omega), if_pos h, ha]
    rw [e1]
    unfold nextL
    rw [if_neg (by omega), if_pos h]
    cases o1 <;> cases o2 <;> simp [syncD, ofD, lo, fl1, fl2, thereF, posF, deedD, bl_irrefl, List.findIdx_cons, l1, l2]
  · have e1 : doesD (lo o1 o2) d = removeD (lo o1 o2) nOne := by unfold doesD; rw [if_neg (by omega), if_neg (by omega), if_neg (by omega), if_pos h, ha]
    rw [e1]
    unfold nextL
    rw [if_neg (by omega), if_neg (by omega), if_pos h]
    cases o1 <;> cases o2 <;> simp [removeD, ofD, lo, fl1, fl2, thereF, posF, deedD, bl_irrefl, List.findIdx_cons, l1, l2]
  · have e1 : doesD (lo o1 o2) d = cutD (lo o1 o2) nOne d.n := by unfold doesD; rw [if_neg (by omega), if_neg (by omega), if_neg (by omega), if_neg (by omega), if_pos h, ha]
    rw [e1]
    unfold nextL
    rw [if_neg (by omega), if_neg (by omega), if_neg (by omega)]
    cases o1 with
    | none => cases o2 <;> simp [cutD, ofD, lo, fl1, fl2, thereF, posF, deedD, bl_irrefl, List.findIdx_cons, l1, l2]
    | some x =>
      obtain ⟨b, s⟩ := x
      by_cases hc : d.n < 0 ∨ (b.length : Int) < d.n
      · cases o2 <;> simp [cutD, ofD, lo, fl1, fl2, thereF, posF, deedD, bl_irrefl, List.findIdx_cons, l1, l2, hc]
      · cases o2 <;> simp [cutD, ofD, lo, fl1, fl2, thereF, posF, deedD, bl_irrefl, List.findIdx_cons, l1, l2, hc]
theorem lone_two (o1 o2 : OF) (d : Ded) (ha : d.a = nTwo) (hop : d.op ≤ 2 ∨ d.op = 3 ∨ d.op = 5 ∨ d.op = 6) (hl : lenO o1 + lenO o2 + d.b.length ≤ 1048576) : doesD (lo o1 o2) d = ((nextL o2 d).1, lo o1 (nextL o2 d).2) := by
  obtain ⟨l1, l2⟩ := lone_less
  obtain ⟨m1, m2⟩ := lone_named
  rcases hop with h | h | h | h
  · have e1 : doesD (lo o1 o2) d = appendD (lo o1 o2) nTwo d.b := by unfold doesD; rw [if_pos h, ha]
    rw [e1]
    unfold nextL
    rw [if_pos h]
    cases o1 <;> cases o2 <;> simp [lenO] at hl <;>
      simp [appendD, m2, lo, fl1, fl2, thereF, posF, usedF, deedD, appF, insF, bl_irrefl, List.findIdx_cons, l1, l2] <;> omega
  · have e1 : doesD (lo o1 o2) d = syncD (lo o1 o2) nTwo := by unfold doesD; rw [if_neg (by omega), if_pos h, ha]
    rw [e1]
    unfold nextL
    rw [if_neg (by omega), if_pos h]
    cases o1 <;> cases o2 <;> simp [syncD, ofD, lo, fl1, fl2, thereF, posF, deedD, bl_irrefl, List.findIdx_cons, l1, l2]
  · have e1 : doesD (lo o1 o2) d = removeD (lo o1 o2) nTwo := by unfold doesD; rw [if_neg (by omega), if_neg (by omega), if_neg (by omega), if_pos h, ha]
    rw [e1]
    unfold nextL
    rw [if_neg (by omega), if_neg (by omega), if_pos h]
    cases o1 <;> cases o2 <;> simp [removeD, ofD, lo, fl1, fl2, thereF, posF, deedD, bl_irrefl, List.findIdx_cons, l1, l2]
  · have e1 : doesD (lo o1 o2) d = cutD (lo o1 o2) nTwo d.n := by unfold doesD; rw [if_neg (by omega), if_neg (by omega), if_neg (by omega), if_neg (by omega), if_pos h, ha]
    rw [e1]
    unfold nextL
    rw [if_neg (by omega), if_neg (by omega), if_neg (by omega)]
    cases o2 with
    | none => cases o1 <;> simp [cutD, ofD, lo, fl1, fl2, thereF, posF, deedD, bl_irrefl, List.findIdx_cons, l1, l2]
    | some x =>
      obtain ⟨b, s⟩ := x
      by_cases hc : d.n < 0 ∨ (b.length : Int) < d.n
      · cases o1 <;> simp [cutD, ofD, lo, fl1, fl2, thereF, posF, deedD, bl_irrefl, List.findIdx_cons, l1, l2, hc]
      · cases o1 <;> simp [cutD, ofD, lo, fl1, fl2, thereF, posF, deedD, bl_irrefl, List.findIdx_cons, l1, l2, hc]
theorem next_len (o : OF) (d : Ded) : lenO (nextL o d).2 ≤ lenO o + d.b.length := by
  unfold nextL
  by_cases h1 : d.op ≤ 2
  · rw [if_pos h1]
    cases o <;> simp [lenO]
  · rw [if_neg h1]
    by_cases h2 : d.op = 3
    · rw [if_pos h2]
      cases o <;> simp [lenO]
    · rw [if_neg h2]
      by_cases h3 : d.op = 5
      · rw [if_pos h3]
        cases o <;> simp [lenO]
      · rw [if_neg h3]
        cases o with
        | none => simp [lenO]
        | some x =>
          obtain ⟨b, s⟩ := x
          simp only
          split
          · simp [lenO]
          · simp [lenO]; omega
theorem lone_look (o1 o2 : OF) : lookF (lo o1 o2).fs nOne = lookF (lo o1 none).fs nOne := by
  obtain ⟨l1, l2⟩ := lone_less
  cases o1 <;> cases o2 <;> simp [lookF, lo, fl1, fl2, thereF, posF, bl_irrefl, List.findIdx_cons, l1, l2]
/-- behind a crash -/
def leftO (o : OF) (k t : Int) : OF := match o with | none => none | some (b, s) => some ((leftF ⟨nOne, b, s⟩ k t).b, (leftF ⟨nOne, b, s⟩ k t).safe)
theorem lone_crash (o1 o2 : OF) (k t : Nat) : ∃ o2', crashD (lo o1 o2) [(k : Int), 7] [(t : Int), 9] = lo (leftO o1 k t) o2' := by
  cases o1 with
  | none =>
    cases o2 with
    | none => exact ⟨none, by simp [crashD, crashF, lo, fl1, fl2, leftO]⟩
    | some x => exact ⟨some ((leftF ⟨nTwo, x.1, x.2⟩ k t).b, (leftF ⟨nTwo, x.1, x.2⟩ k t).safe), by
        have : ¬ ((k : Int) < 0) ∧ ¬ ((t : Int) < 0) := by omega
        simp [crashD, crashF, lo, fl1, fl2, leftO, toldI, this]
        rfl⟩
  | some y =>
    have : ¬ ((k : Int) < 0) ∧ ¬ ((t : Int) < 0) := by omega
    cases o2 with
    | none => exact ⟨none, by simp [crashD, crashF, lo, fl1, fl2, leftO, toldI, this]; rfl⟩
    | some x => exact ⟨some ((leftF ⟨nTwo, x.1, x.2⟩ 7 9).b, (leftF ⟨nTwo, x.1, x.2⟩ 7 9).safe), by
        simp [crashD, crashF, lo, fl1, fl2, leftO, toldI, this]
        exact ⟨rfl, rfl⟩⟩
theorem lone_crash1 (o1 : OF) (k t : Nat) : crashD (lo o1 none) [(k : Int)] [(t : Int)] = lo (leftO o1 k t) none := by
  have : ¬ ((k : Int) < 0) ∧ ¬ ((t : Int) < 0) := by omega
  cases o1 with
  | none => simp [crashD, crashF, lo, fl1, fl2, leftO]
  | some y => simp [crashD, crashF, lo, fl1, fl2, leftO, toldI, this]; rfl
theorem lone_read (o1 o2 : OF) : readD (lo o1 o2) nOne = readD (lo o1 none) nOne := by
  obtain ⟨l1, l2⟩ := lone_less
  cases o1 <;> cases o2 <;> simp [readD, lookF, lo, fl1, fl2, thereF, posF, bl_irrefl, List.findIdx_cons, l1, l2]
end Go.Proofs.Ytemegkapmgcffaa
