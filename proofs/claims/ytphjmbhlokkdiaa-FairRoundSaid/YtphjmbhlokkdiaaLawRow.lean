import Derived.Test.YtphjmbhlokkdiaaLawHelp
import Derived.WalkKit
namespace Go.Proofs.Ytphjmbhlokkdiaa
open Go.RowKit

theorem bytes_of_ints (zs : List Int) (h : ∀ n ∈ zs, (Lit.int .u8 n).wf = true) : ∃ l : List UInt8, zs.map (Value.int .u8) = bytesV l := by
  induction zs with
  | nil => exact ⟨[], rfl⟩
  | cons z zs ih =>
    obtain ⟨l, hl⟩ := ih (fun n hn => h n (List.mem_cons_of_mem _ hn))
    have hz := h z (List.mem_cons_self ..)
    have hz2 : 0 ≤ z ∧ z ≤ 255 := by
      simp [Lit.wf, IntKind.min, IntKind.max, IntKind.signed, IntKind.bits] at hz; omega
    refine ⟨UInt8.ofNat z.toNat :: l, ?_⟩
    have e : ((UInt8.ofNat z.toNat).toNat : Int) = z := by
      rw [UInt8.toNat_ofNat']; omega
    simp only [List.map_cons, bytesV, byteV, e]
    rw [hl]; rfl

/-- bytes that came in, in the words of Sl -/
theorem sl_of_row {w : World} {a : Option Addr} {len cap : Nat} {zs : List Int}
    (h : (a = none ∧ len = 0 ∧ cap = 0 ∧ zs = []) ∨ ∃ x, a = some x ∧ len ≤ cap ∧ cap ≤ maxLen ∧ zs.length = cap ∧ (∀ i, i < zs.length → w.cell? (x.add i) = some (.int .u8 (zs.getD i 0))) ∧ ∀ n ∈ zs, (Lit.int .u8 n).wf = true) :
    ∃ l : List UInt8, Sl w 1 a len cap (bytesV l) := by
  rcases h with ⟨rfl, rfl, rfl, rfl⟩ | ⟨x, rfl, hl, hm, hz, hcell, hwz⟩
  · exact ⟨[], Sl.nil w 1⟩
  · obtain ⟨l, hl2⟩ := bytes_of_ints (zs.take len) (fun n hn => hwz n (List.mem_of_mem_take hn))
    refine ⟨l, ⟨?_, ?_, hl, fun h => by cases h⟩⟩
    · rw [← hl2]
      intro j u hj
      rw [List.getElem?_map] at hj
      cases hj2 : (zs.take len)[j]? with
      | none => rw [hj2] at hj; simp at hj
      | some z =>
        rw [hj2] at hj; simp at hj; subst hj
        rw [List.getElem?_take] at hj2
        split at hj2
        · refine ⟨x, rfl, ?_⟩
          rw [hcell j (List.getElem?_eq_some_iff.1 hj2).1, List.getD_eq_getElem?_getD, hj2]; rfl
        · cases hj2
    · rw [← hl2]; simp; omega
end Go.Proofs.Ytphjmbhlokkdiaa
