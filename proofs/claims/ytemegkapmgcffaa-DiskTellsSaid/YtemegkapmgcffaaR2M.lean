import Derived.Test.YtemegkapmgcffaaR2D
/- The document's disk, by value: sized; one file's crash, plain (printed by wip/gen/gr2m.py). -/
namespace Go.Proofs.Ytemegkapmgcffaa
open Go.RowKit
set_option linter.unusedSimpArgs false
set_option linter.unusedVariables false

/-- what the document's crash has of a file behind `at_` of its bytes -/
def preF (f : Fl) (keep tear : Int) (at_ : Nat) : List UInt8 := f.b.take (min at_ (f.safe + keep.toNat)) ++ List.replicate (at_ - (f.safe + keep.toNat)) 0
theorem preF_low {f : Fl} {keep tear : Int} {k : Nat} {x : UInt8} (hx : f.b[k]? = some x) (h : k < f.safe + keep.toNat) : preF f keep tear (k + 1) = preF f keep tear k ++ [x] := by
  unfold preF
  rw [show min (k + 1) (f.safe + keep.toNat) = k + 1 by omega, show min k (f.safe + keep.toNat) = k by omega, show k + 1 - (f.safe + keep.toNat) = 0 by omega, show k - (f.safe + keep.toNat) = 0 by omega, List.take_add_one, hx]
  simp
theorem preF_high {f : Fl} {keep tear : Int} {k : Nat} (h : f.safe + keep.toNat ≤ k) : preF f keep tear (k + 1) = preF f keep tear k ++ [0] := by
  unfold preF
  rw [show min (k + 1) (f.safe + keep.toNat) = f.safe + keep.toNat by omega, show min k (f.safe + keep.toNat) = f.safe + keep.toNat by omega, show k + 1 - (f.safe + keep.toNat) = (k - (f.safe + keep.toNat)) + 1 by omega, List.replicate_succ']
  simp
section
variable {w : World} {room fuse : Int} {dark : Bool} {A : Option Addr} {n c : Nat} {es : List FE}
set_option maxRecDepth 100000 in
set_option maxHeartbeats 8000000 in
theorem r2sized_any (hs : Sl w 3 A n c (flatFE es)) (hso : SrtF (es.map FE.f)) (hn : n ≤ 1000000) (nm : Nm) : Calls Try.prog 56 #[.agg #[.int .i64 room, .slice A n c, .int .i64 fuse, .bool dark], .string (bstr nm)] w fun x w' => x = .returned (.int .i64 ((lookF (es.map FE.f) nm).b.length : Int)) ∧ Below w.heap.size w w' := by
  have hb1 := below_alloc1 w (.cells #[.int .i64 room, .slice A n c, .int .i64 fuse, .bool dark] 80)
  have k0 := box_cellsR w [.int .i64 room, .slice A n c, .int .i64 fuse, .bool dark] 80 0 _ rfl
  have k1 := box_cellsR w [.int .i64 room, .slice A n c, .int .i64 fuse, .bool dark] 80 1 _ rfl
  have k2 := box_cellsR w [.int .i64 room, .slice A n c, .int .i64 fuse, .bool dark] 80 2 _ rfl
  have k3 := box_cellsR w [.int .i64 room, .slice A n c, .int .i64 fuse, .bool dark] 80 3 _ rfl
  have ob := new_own w [.int .i64 room, .slice A n c, .int .i64 fuse, .bool dark] 80 4 rfl (by unfold maxLen; omega)
  obtain ⟨w1, hw1⟩ : ∃ w1, w1 = w.alloc (.cells #[.int .i64 room, .slice A n c, .int .i64 fuse, .bool dark] 80) := ⟨_, rfl⟩
  have hT1 : (w.alloc (.cells [.int .i64 room, .slice A n c, .int .i64 fuse, .bool dark].toArray 80)) = w1 := hw1.symm
  rw [hT1] at k0 k1 k2 k3 ob
  rw [← hw1] at hb1
  have hz1 : w1.heap.size = w.heap.size + 1 := by rw [hw1]; simp
  have eW : w.alloc (.cells #[.int .i64 room, .slice A n c, .int .i64 fuse, .bool dark] 80) = w1 := hw1.symm
  have HB := Lib.hid hb1
  clear hb1 hw1 hT1 hz1 ob
  have HS := Lib.hid (hs.below HB.out)
  have hln := slFE_len hs
  have hc := r2Find_any (room := room) (fuse := fuse) (dark := dark) HS.out hso hn nm
  have K1 := Lib.hid k1
  clear hs hso
  go_enter Try.func56, Try.ntmps56
  go_upto_region 1 with fail
  clear eW
  go_wp2_with fail
  refine hc.mono ?_; rintro x w2 ⟨rfl, b2⟩
  have B2 := Lib.hid (HB.out.trans (b2.mono HB.out.size))
  have k1 := cellB b2 K1.out
  clear hc k0 k2 k3
  cases ht : thereF (es.map FE.f) nm with
  | false =>
    have hfi : findI (es.map FE.f) nm = -1 := by unfold findI; rw [if_neg (by rw [ht]; simp)]
    have HL := Lib.hid (show (lookF (es.map FE.f) nm).b.length = 0 by unfold lookF; rw [ht]; rfl)
    rw [hfi]
    clear hfi ht b2
    go_wp2_with fail
    go_ret
    exact ⟨by rw [HL.out]; rfl, B2.out⟩
  | true =>
    obtain ⟨f, hf, hfn⟩ := there_true ht
    obtain ⟨k, hk⟩ : ∃ k, k = posF (es.map FE.f) nm := ⟨_, rfl⟩
    have hfi : findI (es.map FE.f) nm = (k : Int) := by unfold findI; rw [if_pos ht, hk]
    have hlk : lookF (es.map FE.f) nm = f := by unfold lookF; rw [ht, hf]
    rw [hfi]
    rw [← hk] at hf
    obtain ⟨e, he, rfl⟩ : ∃ e, es[k]? = some e ∧ e.f = f := by
      rw [List.getElem?_map, Option.map_eq_some_iff] at hf
      exact hf
    have hkl := (List.getElem?_eq_some_iff.1 he).1
    have hss := HS.out.below b2
    obtain ⟨ad, rfl⟩ := slFE_addr hss he
    obtain ⟨y0, y1, y2⟩ := slFE_three hss he
    have hin : (0 : Int) ≤ (k : Int) ∧ (k : Int) < (n : Int) := by omega
    have HL := Lib.hid hlk
    clear ht hf hfi hlk hk he hss hfn b2
    go_wp2_with fail
    go_ret
    exact ⟨by rw [HL.out]; rfl, B2.out⟩
end
end Go.Proofs.Ytemegkapmgcffaa
