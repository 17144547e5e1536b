import Derived.Test.YtbnifagmbhiblaaLawTells
namespace Go.Proofs.Ytbnifagmbhiblaa
open Go.RowKit
theorem walk_bytesTells (B : Option Addr) (n c : Nat) (l : List UInt8) (a0 at_ most : Int) (w : World) (hs : Sl w 1 B n c (bytesV l)) (h0 : (Lit.int .u64 a0).wf = true) (h3 : (Lit.int .i64 most).wf = true) :
    Calls Try.prog 8 #[.int .u64 a0, .slice B n c, .int .i64 at_, .int .i64 most] w fun e w' => e = .returned (.bool true) ∧ Below w.heap.size w w' := by
  simp [Lit.wf, IntKind.min, IntKind.max, IntKind.signed, IntKind.bits] at h0 h3
  obtain ⟨x, rfl⟩ := Int.eq_ofNat_of_zero_le (show 0 ≤ a0 by omega)
  exact walk_tells B x n c l at_ most w (by omega) hs (by omega) (by omega)
end Go.Proofs.Ytbnifagmbhiblaa
