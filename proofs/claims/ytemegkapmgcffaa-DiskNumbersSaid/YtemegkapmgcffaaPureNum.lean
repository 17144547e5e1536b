import Derived.Test.YtemegkapmgcffaaPureDisk
/- The disk's two hundred files. -/
namespace Go.Proofs.Ytemegkapmgcffaa
open Go.RowKit
set_option linter.unusedSimpArgs false
set_option linter.unusedVariables false

deriving instance DecidableEq for Fl
deriving instance DecidableEq for Dk
def nmOf (i : Nat) : Nm := [102, 46, UInt8.ofNat (97 + i % 26), UInt8.ofNat (48 + i / 26)]
/-- 0 .. 199, by letter, then by figure -/
def ordN : List Nat := (List.range 26).flatMap fun l => ((List.range 8).map fun d => l + 26 * d).filter fun j => decide (j < 200)
def stN (i : Nat) : Dk := ⟨16777216, -1, false, (ordN.filter fun j => decide (j < i)).map fun j => ⟨nmOf j, [], 0⟩⟩
set_option maxRecDepth 100000 in
theorem stN_zero : (⟨16777216, -1, false, []⟩ : Dk) = stN 0 := by decide +kernel
set_option maxRecDepth 100000 in
theorem stN_all : ((List.range 200).all fun i => decide (appendD (stN i) (nmOf i) [] = (0, stN (i + 1)))) = true := by decide +kernel
theorem stN_app {i : Nat} (h : i < 200) : appendD (stN i) (nmOf i) [] = (0, stN (i + 1)) := by
  have := List.all_eq_true.1 stN_all i (List.mem_range.2 h)
  exact of_decide_eq_true this
set_option maxRecDepth 100000 in
theorem stN_len : (stN 200).fs.length = 200 := by decide +kernel
def bigN : Dk := ⟨16777216, -1, false, ⟨List.replicate 60 45, [], 0⟩ :: (ordN.drop 1).map fun j => ⟨nmOf j, [], 0⟩⟩
set_option maxRecDepth 100000 in
theorem big1 : appendD (stN 200) [103] [] = (5, stN 200) := by decide +kernel
set_option maxRecDepth 100000 in
theorem big2 : renameD (stN 200) [102, 46, 97, 48] (List.replicate 60 45) = (0, bigN) := by decide +kernel
set_option maxRecDepth 100000 in
theorem big3 : appendD bigN [102, 46, 97, 48] [] = (5, bigN) := by decide +kernel
set_option maxRecDepth 100000 in
theorem big4 : appendD bigN [102, 46, 98, 48] [] = (0, bigN) := by decide +kernel
set_option maxRecDepth 100000 in
theorem big5 : renameD bigN [102, 46, 98, 48] [66] = (16, bigN) := by decide +kernel
set_option maxRecDepth 100000 in
theorem big6 : renameD bigN [103] [104] = (16, bigN) := by decide +kernel
set_option maxRecDepth 100000 in
theorem big7 : cutD bigN [102, 46, 98, 48] 1 = (2, bigN) := by decide +kernel
set_option maxRecDepth 100000 in
theorem big8 : cutD bigN [102, 46, 98, 48] (-1) = (2, bigN) := by decide +kernel
set_option maxRecDepth 100000 in
theorem big9 : cutD bigN [103] 0 = (16, bigN) := by decide +kernel
set_option maxRecDepth 100000 in
theorem big10 : syncD bigN [103] = (16, bigN) := by decide +kernel
set_option maxRecDepth 100000 in
theorem big11 : removeD bigN [103] = (16, bigN) := by decide +kernel
end Go.Proofs.Ytemegkapmgcffaa
