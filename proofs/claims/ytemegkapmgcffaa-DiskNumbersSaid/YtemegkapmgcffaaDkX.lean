import Derived.Test.YtemegkapmgcffaaDkW
import Derived.Test.YtemegkapmgcffaaShelf
/- The disk: the chapter's examples (printed by wip/gen/genawake2.py). -/
namespace Go.Proofs.Ytemegkapmgcffaa
open Go.RowKit
set_option linter.unusedSimpArgs false
set_option linter.unusedVariables false

theorem conv_sl (w : World) (l : List UInt8) (hl : l.length ≤ 1000000) : Sl (Lib.bytesWorld w 5 (bstr l)) 1 (some ⟨w.heap.size, 0, none⟩) l.length (grownCap w l.length 0 5) (bytesV l) ∧ Below w.heap.size w (Lib.bytesWorld w 5 (bstr l)) := by
  have hd : (bstr l).data.toList = l := rfl
  have hs : (bstr l).size = l.length := rfl
  refine ⟨⟨fun j u hj => ⟨_, rfl, ?_⟩, by simp [bytesV], grownCap_ge _ _ _ _, fun h => by cases h⟩, ⟨rfl, rfl, rfl, by rw [Lib.bytesWorld_size]; omega, fun k hk => Lib.bytesWorld_at_old w _ _ k hk⟩⟩
  rw [add_plain]
  obtain ⟨x, hx, rfl⟩ : ∃ x, l[j]? = some x ∧ u = byteV x := by
    unfold bytesV at hj
    rw [List.getElem?_map, Option.map_eq_some_iff] at hj
    obtain ⟨x, h1, h2⟩ := hj
    exact ⟨x, h1, h2.symm⟩
  have hlt := (List.getElem?_eq_some_iff.1 hx).1
  rw [Lib.bytesWorld_cell w _ _ j (by rw [hs]; exact hlt), hd]
  simp [byteV, List.getD_eq_getElem?_getD, hx]
theorem own_one {base n c : Nat} {t : TypeId} {w : World} {A : Option Addr} {cs : List Value} (h : Own base t 1 w A (n + 1) c cs) : ∃ bk, A = some ⟨bk, 0, none⟩ ∧ bk < w.heap.size := by
  rcases h.2 with ⟨h0, h00⟩ | ⟨g, cap, cur, h0, h1, h2, h3⟩
  · omega
  · simp only [Value.slice.injEq] at h0
    exact ⟨g, h0.1, (Array.getElem?_eq_some_iff.1 h2).1⟩
theorem join_cells {base n c bk : Nat} {t : TypeId} {w : World} {xs : List ByteArray} (h : Own base t 1 w (some ⟨bk, 0, none⟩) n c (xs.map .string)) : ∀ (j : Nat) x, xs[j]? = some x → w.cell? ⟨bk, 0 + j, none⟩ = some (.string x) := by
  intro j x hj
  obtain ⟨a, h1, h2⟩ := h.sl.cells j (.string x) (by rw [List.getElem?_map, hj]; rfl)
  cases h1
  rw [add_plain] at h2
  rw [Nat.zero_add]
  exact h2
def aw0 : Dk := ⟨1000, -1, false, []⟩
def aw1 : Dk := ⟨1000, -1, false, [⟨[97], [120, 121, 122], 0⟩]⟩
def aw2 : Dk := ⟨1000, -1, false, [⟨[97], [120, 121, 122], 3⟩]⟩
def aw3 : Dk := ⟨1000, -1, false, [⟨[97], [120, 121, 122, 117, 118], 3⟩]⟩
def aw4 : Dk := ⟨1000, -1, false, [⟨[97], [120, 121, 122, 117, 118], 3⟩, ⟨[98], [119], 0⟩]⟩
def aw5 : Dk := ⟨1000, -1, false, [⟨[97], [120, 121, 122, 117], 4⟩, ⟨[98], [], 0⟩]⟩
def aw6 : Dk := ⟨1000, -1, false, [⟨[98], [120, 121, 122, 117], 4⟩]⟩
def aw7 : Dk := ⟨1000, 1, false, [⟨[98], [120, 121, 122, 117], 4⟩]⟩
def aw8 : Dk := ⟨1000, 0, false, [⟨[98], [120, 121, 122, 117], 4⟩]⟩
def aw9 : Dk := ⟨1000, -1, true, [⟨[98], [120, 121, 122, 117], 4⟩]⟩
def aw10 : Dk := ⟨1000, -1, false, [⟨[98], [120, 121, 122, 117], 4⟩]⟩
def aw11 : Dk := ⟨1000, -1, false, [⟨[98], [120, 121, 122, 117], 4⟩]⟩
def aw12 : Dk := ⟨1000, -1, false, [⟨[98], [120, 121, 122, 117], 4⟩, ⟨[99], [115, 115, 115, 115, 115, 115, 115, 115, 115, 115, 115, 115, 115, 115, 115, 115, 115, 115, 115, 115, 115, 115, 115, 115, 115, 115, 115, 115, 115, 115, 115, 115, 115, 115, 115, 115, 115, 115, 115, 115, 115, 115, 115, 115, 115, 115, 115, 115, 115, 115, 115, 115, 115, 115, 115, 115, 115, 115, 115, 115], 0⟩]⟩
def aw13 : Dk := ⟨1000, -1, false, [⟨[98], [120, 121, 122, 117], 4⟩, ⟨[99], [115, 115, 115, 115, 115, 115, 115, 115, 115, 115, 115, 115, 115, 115, 115, 115, 115, 115, 115, 115, 115, 115, 115, 115, 115, 115, 115, 115, 115, 115, 115, 115, 115, 115, 115, 115, 115, 115, 115, 115, 115, 115, 115, 115, 115, 115, 115, 115, 115, 115, 115, 115, 115, 115, 115, 115, 115, 115, 115, 115], 60⟩]⟩
def aw14 : Dk := ⟨1000, -1, false, [⟨[98], [120, 121, 122, 117], 4⟩, ⟨[99], [115, 115, 115, 115, 115, 115, 115, 115, 115, 115, 115, 115, 115, 115, 115, 115, 115, 115, 115, 115, 115, 115, 115, 115, 115, 115, 115, 115, 115, 115, 115, 115, 115, 115, 115, 115, 115, 115, 115, 115, 115, 115, 115, 115, 115, 115, 115, 115, 115, 115, 115, 115, 115, 115, 115, 115, 115, 115, 115, 115, 49, 50, 51, 52, 53, 54, 55, 56, 57], 60⟩]⟩
def aw15 : Dk := ⟨1000, -1, false, [⟨[98], [120, 121, 122, 117], 4⟩, ⟨[99], [115, 115, 115, 115, 115, 115, 115, 115, 115, 115, 115, 115, 115, 115, 115, 115, 115, 115, 115, 115, 115, 115, 115, 115, 115, 115, 115, 115, 115, 115, 115, 115, 115, 115, 115, 115, 115, 115, 115, 115, 115, 115, 115, 115, 115, 115, 115, 115, 115, 115, 115, 115, 115, 115, 115, 115, 115, 115, 115, 115, 49, 50, 0, 0], 64⟩]⟩
set_option maxRecDepth 100000 in
set_option maxHeartbeats 8000000 in
theorem awake2_any (W : World) : Calls Try.prog 32 #[] W fun x w' => x = .returned (.bool true) ∧ Below W.heap.size W w' := by
  have hnew : newD 1000 = aw0 := by rfl
  have kc := fun (w : World) (C : Array Value) (n c : Nat) => Lib.run_convert_bytes_const (P := Try.prog) w 22 5 C n c Try.underlying22 Try.underlying5
  go_enter Try.func32, Try.ntmps32
  go_wp2_with fail
  refine (new_dsk (Below.refl _ _) (by decide)).mono ?_; rintro x w0 ⟨p, rfl, h0⟩
  rw [hnew] at h0
  go_wp2_with fail
  refine (append_lit (r := 0) (nm := [97]) (bs := [120, 121, 122]) (D' := aw1) h0 (by rfl) (by decide) (by rfl) (by rfl) (by decide) (by kernel_rfl)).mono ?_; rintro x w1 ⟨rfl, h1⟩
  clear h0
  go_wp2_with fail
  refine (sync_dsk (r := 0) (nm := [97]) (D' := aw2) h1 (by rfl) (by kernel_rfl)).mono ?_; rintro x w2 ⟨rfl, h2⟩
  clear h1
  go_wp2_with fail
  refine (append_lit (r := 0) (nm := [97]) (bs := [117, 118]) (D' := aw3) h2 (by rfl) (by decide) (by rfl) (by rfl) (by decide) (by kernel_rfl)).mono ?_; rintro x w3 ⟨rfl, h3⟩
  clear h2
  go_wp2_with fail
  refine (append_lit (r := 0) (nm := [98]) (bs := [119]) (D' := aw4) h3 (by rfl) (by decide) (by rfl) (by rfl) (by decide) (by kernel_rfl)).mono ?_; rintro x w4 ⟨rfl, h4⟩
  clear h3
  go_wp2_with fail
  refine (holds_dsk (nm := [97]) (want := [120, 121, 122, 117, 118]) (b := true) h4 (by rfl) (by rfl) (by kernel_rfl)).mono ?_; rintro x w5 ⟨rfl, -, h5⟩
  clear h4
  go_wp2_with fail
  refine (crash_lit0 (ks := [1]) (D' := aw5) h5 (by rfl) (by rfl) (by decide) (by decide) (by kernel_rfl)).mono ?_; rintro x w6 ⟨rfl, h6⟩
  clear h5
  go_wp2_with fail
  refine (holds_dsk (nm := [97]) (want := [120, 121, 122, 117]) (b := true) h6 (by rfl) (by rfl) (by kernel_rfl)).mono ?_; rintro x w7 ⟨rfl, -, h7⟩
  clear h6
  go_wp2_with fail
  refine (holds_dsk (nm := [98]) (want := []) (b := true) h7 (by rfl) (by rfl) (by kernel_rfl)).mono ?_; rintro x w8 ⟨rfl, -, h8⟩
  clear h7
  go_wp2_with fail
  refine (rename_dsk (r := 0) (nm := [97]) (tn := [98]) (D' := aw6) h8 (by rfl) (by rfl) (by decide) (by kernel_rfl)).mono ?_; rintro x w9 ⟨rfl, h9⟩
  clear h8
  go_wp2_with fail
  refine (list_dsk (n := 1) (ns := [.string (bstr [98])]) h9 (by rfl) (by kernel_rfl)).mono ?_; rintro x w10 ⟨A10, c10, rfl, ho10, -, h10⟩
  clear h9
  go_wp2_with fail
  obtain ⟨bk, rfl, hbk⟩ := own_one ho10
  refine (Try.strings_Join bk 0 c10 [bstr [98]] _ _ (join_cells ho10) hbk (by decide) (by have := ho10.sl.le; exact this) (by decide)).mono ?_; rintro x w10b ⟨rfl, hb10⟩
  replace h10 := h10.below hb10
  clear ho10 hbk hb10
  have hj : (⟨(Lib.join (([bstr [98]] : List ByteArray).map (·.data.toList)) (ByteArray.mk #[32]).data.toList).toArray⟩ : ByteArray) = bstr [98] := by rfl
  go_wp2_with fail
  refine (holds_dsk (nm := [98]) (want := [120, 121, 122, 117]) (b := true) h10 (by rfl) (by rfl) (by kernel_rfl)).mono ?_; rintro x w11 ⟨rfl, -, h11⟩
  clear h10
  go_wp2_with fail
  refine (arm_dsk (D' := aw7) h11 (by decide) (by kernel_rfl)).mono ?_; rintro x w12 ⟨rfl, h12⟩
  clear h11
  go_wp2_with fail
  refine (sync_dsk (r := 0) (nm := [98]) (D' := aw8) h12 (by rfl) (by kernel_rfl)).mono ?_; rintro x w13 ⟨rfl, h13⟩
  clear h12
  go_wp2_with fail
  refine (remove_dsk (r := 15) (nm := [98]) (D' := aw9) h13 (by rfl) (by kernel_rfl)).mono ?_; rintro x w14 ⟨rfl, h14⟩
  clear h13
  go_wp2_with fail
  refine (read_dsk (nm := [98]) (bs := []) (r := 15) h14 (by rfl) (by kernel_rfl)).mono ?_; rintro x w15 ⟨A15, c15, rfl, -, -, h15⟩
  clear h14
  go_wp2_with fail
  refine (crash_lit1 (ts := [9]) (D' := aw10) h15 (by rfl) (by rfl) (by decide) (by decide) (by kernel_rfl)).mono ?_; rintro x w16 ⟨rfl, h16⟩
  clear h15
  go_wp2_with fail
  refine (holds_dsk (nm := [98]) (want := [120, 121, 122, 117]) (b := true) h16 (by rfl) (by rfl) (by kernel_rfl)).mono ?_; rintro x w17 ⟨rfl, -, h17⟩
  clear h16
  go_wp2_with fail
  refine (append_dsk (r := 16) (nm := [65]) (bs := []) (D' := aw11) h17 (Below.refl _ _) (by rfl) (by decide) (sl_nilF _) (fun _ => Apt.none _ _) (by decide) (by kernel_rfl)).mono ?_; rintro x w18 ⟨rfl, h18⟩
  clear h17
  -- LONG
  go_wp2_with fail
  refine (Try.strings_Repeat (bstr [115]) 60 _ (by decide) (by decide)).mono ?_; rintro x w19 ⟨rfl, hb19⟩
  have hlong : (⟨(Lib.repeatL (bstr [115]).data.toList 60).toArray⟩ : ByteArray) = bstr [115, 115, 115, 115, 115, 115, 115, 115, 115, 115, 115, 115, 115, 115, 115, 115, 115, 115, 115, 115, 115, 115, 115, 115, 115, 115, 115, 115, 115, 115, 115, 115, 115, 115, 115, 115, 115, 115, 115, 115, 115, 115, 115, 115, 115, 115, 115, 115, 115, 115, 115, 115, 115, 115, 115, 115, 115, 115, 115, 115] := by rfl
  rw [hlong]
  replace h18 := h18.below hb19
  clear hb19 hlong
  go_wp2_with fail
  rw [Lib.run_convert_string_bytes (P := Try.prog) _ 9 22 5 _ Try.underlying9 Try.underlying22 Try.underlying5]
  simp only [Result.andThen, Oper.upon]
  have hcs := conv_sl w19 [115, 115, 115, 115, 115, 115, 115, 115, 115, 115, 115, 115, 115, 115, 115, 115, 115, 115, 115, 115, 115, 115, 115, 115, 115, 115, 115, 115, 115, 115, 115, 115, 115, 115, 115, 115, 115, 115, 115, 115, 115, 115, 115, 115, 115, 115, 115, 115, 115, 115, 115, 115, 115, 115, 115, 115, 115, 115, 115, 115] (by decide)
  obtain ⟨wc, hwc⟩ : ∃ wc, wc = Lib.bytesWorld w19 5 (bstr [115, 115, 115, 115, 115, 115, 115, 115, 115, 115, 115, 115, 115, 115, 115, 115, 115, 115, 115, 115, 115, 115, 115, 115, 115, 115, 115, 115, 115, 115, 115, 115, 115, 115, 115, 115, 115, 115, 115, 115, 115, 115, 115, 115, 115, 115, 115, 115, 115, 115, 115, 115, 115, 115, 115, 115, 115, 115, 115, 115]) := ⟨_, rfl⟩
  rw [← hwc] at hcs
  have hsz : (bstr [115, 115, 115, 115, 115, 115, 115, 115, 115, 115, 115, 115, 115, 115, 115, 115, 115, 115, 115, 115, 115, 115, 115, 115, 115, 115, 115, 115, 115, 115, 115, 115, 115, 115, 115, 115, 115, 115, 115, 115, 115, 115, 115, 115, 115, 115, 115, 115, 115, 115, 115, 115, 115, 115, 115, 115, 115, 115, 115, 115]).size = 60 := by rfl
  rw [← hwc, hsz]
  clear hwc
  go_wp2_with fail
  refine (append_dsk (r := 0) (nm := [99]) (bs := [115, 115, 115, 115, 115, 115, 115, 115, 115, 115, 115, 115, 115, 115, 115, 115, 115, 115, 115, 115, 115, 115, 115, 115, 115, 115, 115, 115, 115, 115, 115, 115, 115, 115, 115, 115, 115, 115, 115, 115, 115, 115, 115, 115, 115, 115, 115, 115, 115, 115, 115, 115, 115, 115, 115, 115, 115, 115, 115, 115]) (D' := aw12) h18 hcs.2 (by rfl) (by decide) hcs.1 (fun _ => Apt.new _ _ _) (by decide) (by kernel_rfl)).mono ?_; rintro x w20 ⟨rfl, h20⟩
  clear h18 hcs
  go_wp2_with fail
  refine (sync_dsk (r := 0) (nm := [99]) (D' := aw13) h20 (by rfl) (by kernel_rfl)).mono ?_; rintro x w21 ⟨rfl, h21⟩
  clear h20
  go_wp2_with fail
  refine (append_lit (r := 0) (nm := [99]) (bs := [49, 50, 51, 52, 53, 54, 55, 56, 57]) (D' := aw14) h21 (by rfl) (by decide) (by rfl) (by rfl) (by decide) (by kernel_rfl)).mono ?_; rintro x w22 ⟨rfl, h22⟩
  clear h21
  go_wp2_with fail
  refine (crash_lit2 (ks := [0, 2]) (ts := [0, 9]) (D' := aw15) h22 (by rfl) (by rfl) (by rfl) (by rfl) (by rfl) (by decide) (by decide) (by decide) (by decide) (by kernel_rfl)).mono ?_; rintro x w23 ⟨rfl, h23⟩
  clear h22
  have hsz2 : (ByteArray.mk #[49, 50, 0, 0]).size = 4 := by rfl
  go_wp2_with fail
  refine (holds_dsk (nm := [99]) (want := [115, 115, 115, 115, 115, 115, 115, 115, 115, 115, 115, 115, 115, 115, 115, 115, 115, 115, 115, 115, 115, 115, 115, 115, 115, 115, 115, 115, 115, 115, 115, 115, 115, 115, 115, 115, 115, 115, 115, 115, 115, 115, 115, 115, 115, 115, 115, 115, 115, 115, 115, 115, 115, 115, 115, 115, 115, 115, 115, 115, 49, 50, 0, 0]) (b := true) h23 (by rfl) (by rfl) (by kernel_rfl)).mono ?_; rintro x w24 ⟨rfl, -, h24⟩
  clear h23
  go_wp2_with fail
  go_ret
  exact ⟨rfl, h24.bel⟩
end Go.Proofs.Ytemegkapmgcffaa
