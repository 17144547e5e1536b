import Derived.Test.YtphjmbhlokkdiaaPureFrame
import Derived.Test.YtphjmbhlokkdiaaLawRow
namespace Go.Proofs.Ytphjmbhlokkdiaa
open Go.RowKit
set_option linter.unusedSimpArgs false
set_option linter.unusedVariables false

theorem Sl.alloc' {w : World} {n c : Nat} {A : Option Addr} {cs : List Value} (h : Sl w 1 A n c cs) (o : Obj) : Sl (w.alloc o) 1 A n c cs := h.below (below_alloc1 _ _)

theorem sameBytes_any (A B : Option Addr) (n c m d : Nat) (l b : List UInt8) (w : World) (hs : Sl w 1 A n c (bytesV l)) (ht : Sl w 1 B m d (bytesV b)) :
    Calls Try.prog 17 #[.slice A n c, .slice B m d] w fun e w' => e = .returned (.bool (l == b)) ∧ w = w' := by
  have hc1 := run_str hs
  have hc2 := run_str ht
  go_enter Try.func17, Try.ntmps17
  go_wp2_with fail
  go_ret
  exact ⟨rfl, rfl⟩

theorem sameBytes_lit (A B : Option Addr) (n c m d : Nat) (l b : List UInt8) (z : Bool) (w : World) (hs : Sl w 1 A n c (bytesV l)) (ht : Sl w 1 B m d (bytesV b)) (hz : (l == b) = z) :
    Calls Try.prog 17 #[.slice A n c, .slice B m d] w fun e w' => e = .returned (.bool z) ∧ Below w.heap.size w w' :=
  (sameBytes_any A B n c m d l b w hs ht).mono fun e w' ⟨h1, h2⟩ => ⟨by rw [h1, hz], h2 ▸ Below.refl _ _⟩

theorem frm_a : frm [97] = [1, 97, 232, 183, 190, 67, 165] := by
  unfold frm
  rw [show ([97] : List UInt8).length = 1 from rfl, uv_1]
  decide +kernel

end Go.Proofs.Ytphjmbhlokkdiaa
