import Derived.Test.YtphjmbhlokkdiaaByteWalksE
import Derived.Test.YtphjmbhlokkdiaaRegion
import Derived.WalkKit
import Derived.Lib.BufferMore
import Derived.BigQuiet
import Derived.Deep.QuietTactic
namespace Go.Proofs.Ytphjmbhlokkdiaa
open Go.RowKit
set_option linter.unusedSimpArgs false
set_option linter.unusedVariables false

/-- bytes that are written out -/
theorem sl_new (w : World) (l : List UInt8) (e : TypeId) (n : Nat) (hn : l.length = n) : Sl (w.alloc (.cells (bytesV l).toArray e)) 1 (some ⟨w.heap.size, 0, none⟩) n n (bytesV l) := by
  subst hn
  refine ⟨fun j u hj => ⟨_, rfl, ?_⟩, by simp [bytesV], Nat.le_refl _, fun h => by cases h⟩
  rw [add_plain, cell_of_row _ w.heap.size j (bytesV l).toArray e (0, 0) (heap_alloc_new w _)]
  simpa using hj

theorem crc4_cells (r : BitVec 32) : (#[.int .u8 ((r.toNat : Int) / 16777216), .int .u8 ((r.toNat : Int) / 65536 % 256), .int .u8 ((r.toNat : Int) / 256 % 256), .int .u8 ((r.toNat : Int) % 256)] : Array Value) = (bytesV (crc4 r)).toArray := by
  have := r.isLt
  simp only [bytesV, crc4, byteV, List.map_cons, List.map_nil, UInt8.toNat_ofNat']
  congr 5 <;> omega

end Go.Proofs.Ytphjmbhlokkdiaa
