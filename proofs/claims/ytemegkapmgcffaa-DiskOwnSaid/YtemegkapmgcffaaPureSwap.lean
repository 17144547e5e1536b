import Derived.Test.YtemegkapmgcffaaDkX
/- The disk, plain: a file written anew beside (DiskSwap). -/
namespace Go.Proofs.Ytemegkapmgcffaa
open Go.RowKit
set_option linter.unusedSimpArgs false
set_option linter.unusedVariables false

abbrev nRoot : Nm := [114, 111, 111, 116]
abbrev nNext : Nm := [110, 101, 120, 116]
def sw1 (e : List UInt8) : Dk := ⟨4096, -1, false, [⟨nRoot, e, 0⟩]⟩
def sw2 (e : List UInt8) : Dk := ⟨4096, -1, false, [⟨nRoot, e, e.length⟩]⟩
def sw3 (e : List UInt8) (f : Int) : Dk := ⟨4096, f, false, [⟨nRoot, e, e.length⟩]⟩
theorem sw_new (e : List UInt8) (h : e.length ≤ 200) : appendD (newD 4096) nRoot e = (0, sw1 e) := by
  have h1 : namedF nRoot = true := by decide
  have h2 : ¬ ((4096 : Int) < (e.length : Int)) := by omega
  simp [appendD, h1, newD, thereF, posF, usedF, deedD, appF, insF, sw1, h2]
theorem sw_sync (e : List UInt8) : syncD (sw1 e) nRoot = (0, sw2 e) := by
  simp [syncD, ofD, sw1, thereF, posF, deedD, sw2, Op.bytesLess]
theorem sw_arm (e : List UInt8) (f : Int) (h : 0 ≤ f) : armD (sw2 e) f = sw3 e f := by
  simp [armD, sw2, sw3]; omega
theorem sw_len (e n : List UInt8) (h : e.length ≤ 200) (h2 : n.length ≤ 200) : ¬ ((4096 : Int) < (e.length : Int) + (n.length : Int)) := by omega
theorem sw_named : namedF nNext = true := by decide
theorem sw_less : Op.bytesLess nRoot nNext = false ∧ Op.bytesLess nNext nRoot = true := by decide
theorem sw_ap0 (e n : List UInt8) (h : e.length ≤ 200) (h2 : n.length ≤ 200) : appendD (sw3 e 0) nNext n = (15, ⟨4096, -1, true, [⟨nRoot, e, e.length⟩]⟩) := by
  have h1 := sw_named
  have h3 := sw_len e n h h2
  simp [appendD, h1, sw3, usedF, thereF, posF, sw_less, deedD, darkD, h3]
theorem sw_ap (e n : List UInt8) (f : Int) (hf : 0 < f) (h : e.length ≤ 200) (h2 : n.length ≤ 200) : appendD (sw3 e f) nNext n = (0, ⟨4096, f - 1, false, [⟨nNext, n, 0⟩, ⟨nRoot, e, e.length⟩]⟩) := by
  have h1 := sw_named
  have h3 := sw_len e n h h2
  have h4 : ¬ f = 0 := by omega
  simp [appendD, h1, sw3, usedF, thereF, posF, sw_less, deedD, darkD, h3, h4, hf, appF, insF]
theorem sync_dark (D : Dk) (nm : Nm) (h : D.dark = true) : syncD D nm = (15, D) := by unfold syncD ofD; rw [if_pos h]
theorem rename_dark (D : Dk) (nm tn : Nm) (h : D.dark = true) : renameD D nm tn = (15, D) := by unfold renameD ofD; rw [if_pos h]
theorem sw_sync0 (e n : List UInt8) : syncD ⟨4096, 0, false, [⟨nNext, n, 0⟩, ⟨nRoot, e, e.length⟩]⟩ nNext = (15, ⟨4096, -1, true, [⟨nNext, n, 0⟩, ⟨nRoot, e, e.length⟩]⟩) := by
  simp [syncD, ofD, thereF, posF, bl_irrefl, List.findIdx_cons, deedD, darkD]
theorem sw_sync1 (e n : List UInt8) (f : Int) (hf : 0 < f) : syncD ⟨4096, f, false, [⟨nNext, n, 0⟩, ⟨nRoot, e, e.length⟩]⟩ nNext = (0, ⟨4096, f - 1, false, [⟨nNext, n, n.length⟩, ⟨nRoot, e, e.length⟩]⟩) := by
  have h4 : ¬ f = 0 := by omega
  simp [syncD, ofD, thereF, posF, bl_irrefl, List.findIdx_cons, deedD, darkD, h4, hf]
theorem sw_rename0 (e n : List UInt8) : renameD ⟨4096, 0, false, [⟨nNext, n, n.length⟩, ⟨nRoot, e, e.length⟩]⟩ nNext nRoot = (15, ⟨4096, -1, true, [⟨nNext, n, n.length⟩, ⟨nRoot, e, e.length⟩]⟩) := by
  have h1 : namedF nRoot = true := by decide
  simp [renameD, ofD, thereF, posF, bl_irrefl, List.findIdx_cons, deedD, darkD, h1]
theorem sw_rename1 (e n : List UInt8) (f : Int) (hf : 0 < f) : renameD ⟨4096, f, false, [⟨nNext, n, n.length⟩, ⟨nRoot, e, e.length⟩]⟩ nNext nRoot = (0, ⟨4096, f - 1, false, [⟨nRoot, n, n.length⟩]⟩) := by
  have h1 : namedF nRoot = true := by decide
  have h4 : ¬ f = 0 := by omega
  simp [renameD, ofD, thereF, posF, bl_irrefl, List.findIdx_cons, deedD, darkD, h1, h4, hf, moveF]
theorem left_whole (nm : Nm) (b : List UInt8) (k t : Int) : leftF ⟨nm, b, b.length⟩ k t = ⟨nm, b, b.length⟩ := by
  simp [leftF]
theorem sw_crash1 (e : List UInt8) (fu : Int) (dk : Bool) (ks ts : List Int) : crashD ⟨4096, fu, dk, [⟨nRoot, e, e.length⟩]⟩ ks ts = sw2 e := by
  simp [crashD, crashF, left_whole, sw2]
theorem sw_crash2 (e n : List UInt8) (s : Nat) (fu : Int) (dk : Bool) (ks ts : List Int) : crashD ⟨4096, fu, dk, [⟨nNext, n, s⟩, ⟨nRoot, e, e.length⟩]⟩ ks ts = ⟨4096, -1, false, [leftF ⟨nNext, n, s⟩ (toldI ks 0) (toldI ts 0), ⟨nRoot, e, e.length⟩]⟩ := by
  simp [crashD, crashF, left_whole]
theorem sw_read1 (e : List UInt8) : readD (sw2 e) nRoot = (e, 0) ∧ readD (sw2 e) nNext = ([], 16) := by
  simp [readD, sw2, thereF, posF, bl_irrefl, lookF, sw_less]
theorem sw_read2 (e b : List UInt8) (s : Nat) : readD ⟨4096, -1, false, [⟨nNext, b, s⟩, ⟨nRoot, e, e.length⟩]⟩ nRoot = (e, 0) ∧ readD ⟨4096, -1, false, [⟨nNext, b, s⟩, ⟨nRoot, e, e.length⟩]⟩ nNext = (b, 0) := by
  simp [readD, thereF, posF, bl_irrefl, lookF, sw_less, List.findIdx_cons]
end Go.Proofs.Ytemegkapmgcffaa
