import Derived.Test.YtcidifmikcnkcaaBase
import Derived.WalkKit
namespace Go.Proofs.Ytcidifmikcnkcaa
open Go.RowKit

/-- whole numbers that came in, in the words of Sl -/
theorem sl_ints_of_row {w : World} {a : Option Addr} {len cap : Nat} {zs : List Int}
    (h : (a = none ∧ len = 0 ∧ cap = 0 ∧ zs = []) ∨ ∃ x, a = some x ∧ len ≤ cap ∧ cap ≤ maxLen ∧ zs.length = cap ∧ (∀ i, i < zs.length → w.cell? (x.add i) = some (.int .i64 (zs.getD i 0))) ∧ ∀ n ∈ zs, (Lit.int .i64 n).wf = true) :
    ∃ l : List Int, Sl w 1 a len cap (l.map (Value.int .i64)) ∧ len ≤ 9223372036854775807 := by
  rcases h with ⟨rfl, rfl, rfl, rfl⟩ | ⟨x, rfl, hl, hm, hz, hcell, hwz⟩
  · exact ⟨[], Sl.nil w 1, by omega⟩
  · refine ⟨zs.take len, ⟨?_, ?_, hl, fun h => by cases h⟩, by unfold maxLen at hm; omega⟩
    · intro j u hj
      rw [List.getElem?_map] at hj
      cases hj2 : (zs.take len)[j]? with
      | none => rw [hj2] at hj; simp at hj
      | some z =>
        rw [hj2] at hj; simp at hj; subst hj
        rw [List.getElem?_take] at hj2
        split at hj2
        · refine ⟨x, rfl, ?_⟩
          rw [hcell j (List.getElem?_eq_some_iff.1 hj2).1, List.getD_eq_getElem?_getD, hj2]; rfl
        · cases hj2
    · simp; omega
end Go.Proofs.Ytcidifmikcnkcaa
