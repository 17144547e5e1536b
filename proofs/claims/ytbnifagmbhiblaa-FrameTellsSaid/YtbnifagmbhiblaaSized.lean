import Derived.Test.YtbnifagmbhiblaaLawRow
import Derived.SizedLaws
import Derived.ChangeSlices
namespace Go.Proofs.Ytbnifagmbhiblaa
open Go.ChangeShapes Go.WideShapes
/-- bytes that came in are no more than the reach allows -/
theorem sized_bytes {H : Type} {enc : TypeId × Value → H} {W : World} {base : Nat} {spare : Nat → Bool} {held : Bool} {a : Option Addr} {len cap : Nat} {d : DataW H} {ps : List MemPlace} {ts : List TypeId} {ds : List (DataW H)} {j : Nat}
    (hsz : (DataW.weightsEach Try.prog ts ds).all (· ≤ reachBytes) = true) (ht : ts[j]? = some 26) (hd : ds[j]? = some d)
    (h : DataW.Trod enc Try.prog W base spare held 26 (.slice a len cap) d ps) : len ≤ 140737488351232 := by
  obtain ⟨fuel, hf⟩ := h
  rcases open_ints Try.underlying26 Try.underlying5 (by kernel_rfl) hf with ⟨hcs, _⟩ | ⟨x, l, c, zs, hcs, _, hl, _, hz, hx, _, _⟩
  · simp [Value.cells] at hcs
    omega
  · simp [Value.cells] at hcs
    obtain ⟨rfl, rfl, rfl⟩ := hcs
    have hx2 := (Prod.mk.inj hx).1
    subst hx2
    have z := sized_slice hsz ht hd Try.underlying26
    have hB : Try.prog.bytesOf 5 = 1 := by kernel_rfl
    rw [hB, Nat.mul_one] at z
    have hR : reachBytes ≤ 140737488351232 := by decide
    have hl2 : len ≤ zs.length := by
      rw [hz]
      split
      · exact hl
      · exact Nat.le_refl _
    simp only [lits, List.length_map, List.length_take, List.length_drop] at z
    omega
end Go.Proofs.Ytbnifagmbhiblaa
