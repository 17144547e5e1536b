import Derived.Test.YtemegkapmgcffaaMDd
import Derived.Test.YtemegkapmgcffaaShelf
import Derived.WalkKit
import Derived.ProofKit
import Derived.OpenShut
import Derived.ShutString
import Derived.ChangeOld
import Derived.Test.YtemegkapmgcffaaMWa
import Derived.Deep.Slices
import Derived.ChangeMaps5
/- The disk: the chapter's examples (printed by wip/gen/genawake2.py). -/
namespace Go.Proofs.Ytemegkapmgcffaa
open Go.RowKit
set_option linter.unusedSimpArgs false
set_option linter.unusedVariables false

theorem conv_sl (w : World) (l : List UInt8) (hl : l.length ≤ 1000000) : Sl (Lib.bytesWorld w 5 (bstr l)) 1 (some ⟨w.heap.size, 0, none⟩) l.length (grownCap w l.length 0 5) (bytesV l) ∧ Below w.heap.size w (Lib.bytesWorld w 5 (bstr l)) := by
  have hd : (bstr l).data.toList = l := rfl
  have hs : (bstr l).size = l.length := rfl
  refine ⟨⟨fun j u hj => ⟨_, rfl, ?_⟩, by simp [bytesV], grownCap_ge _ _ _ _, fun h => by cases h⟩, ⟨rfl, rfl, rfl, by rw [Lib.bytesWorld_size]; omega, fun k hk => Lib.bytesWorld_at_old w _ _ k hk⟩⟩
  rw [add_plain]
  obtain ⟨x, hx, rfl⟩ : ∃ x, l[j]? = some x ∧ u = byteV x := by
    unfold bytesV at hj
    rw [List.getElem?_map, Option.map_eq_some_iff] at hj
    obtain ⟨x, h1, h2⟩ := hj
    exact ⟨x, h1, h2.symm⟩
  have hlt := (List.getElem?_eq_some_iff.1 hx).1
  rw [Lib.bytesWorld_cell w _ _ j (by rw [hs]; exact hlt), hd]
  simp [byteV, List.getD_eq_getElem?_getD, hx]
theorem own_one {base n c : Nat} {t : TypeId} {w : World} {A : Option Addr} {cs : List Value} (h : Own base t 1 w A (n + 1) c cs) : ∃ bk, A = some ⟨bk, 0, none⟩ ∧ bk < w.heap.size := by
  rcases h.2 with ⟨h0, h00⟩ | ⟨g, cap, cur, h0, h1, h2, h3⟩
  · omega
  · simp only [Value.slice.injEq] at h0
    exact ⟨g, h0.1, (Array.getElem?_eq_some_iff.1 h2).1⟩
theorem join_cells {base n c bk : Nat} {t : TypeId} {w : World} {xs : List ByteArray} (h : Own base t 1 w (some ⟨bk, 0, none⟩) n c (xs.map .string)) : ∀ (j : Nat) x, xs[j]? = some x → w.cell? ⟨bk, 0 + j, none⟩ = some (.string x) := by
  intro j x hj
  obtain ⟨a, h1, h2⟩ := h.sl.cells j (.string x) (by rw [List.getElem?_map, hj]; rfl)
  cases h1
  rw [add_plain] at h2
  rw [Nat.zero_add]
  exact h2
def aw0 : Dk := ⟨1000, -1, false, []⟩
def aw1 : Dk := ⟨1000, -1, false, [⟨[97], [120, 121, 122], 0⟩]⟩
def aw2 : Dk := ⟨1000, -1, false, [⟨[97], [120, 121, 122], 3⟩]⟩
def aw3 : Dk := ⟨1000, -1, false, [⟨[97], [120, 121, 122, 117, 118], 3⟩]⟩
def aw4 : Dk := ⟨1000, -1, false, [⟨[97], [120, 121, 122, 117, 118], 3⟩, ⟨[98], [119], 0⟩]⟩
def aw5 : Dk := ⟨1000, -1, false, [⟨[97], [120, 121, 122, 117], 4⟩, ⟨[98], [], 0⟩]⟩
def aw6 : Dk := ⟨1000, -1, false, [⟨[98], [120, 121, 122, 117], 4⟩]⟩
def aw7 : Dk := ⟨1000, 1, false, [⟨[98], [120, 121, 122, 117], 4⟩]⟩
def aw8 : Dk := ⟨1000, 0, false, [⟨[98], [120, 121, 122, 117], 4⟩]⟩
def aw9 : Dk := ⟨1000, -1, true, [⟨[98], [120, 121, 122, 117], 4⟩]⟩
def aw10 : Dk := ⟨1000, -1, false, [⟨[98], [120, 121, 122, 117], 4⟩]⟩
def aw11 : Dk := ⟨1000, -1, false, [⟨[98], [120, 121, 122, 117], 4⟩]⟩
def aw12 : Dk := ⟨1000, -1, false, [⟨[98], [120, 121, 122, 117], 4⟩, ⟨[99], [115, 115, 115, 115, 115, 115, 115, 115, 115, 115, 115, 115, 115, 115, 115, 115, 115, 115, 115, 115, 115, 115, 115, 115, 115, 115, 115, 115, 115, 115, 115, 115, 115, 115, 115, 115, 115, 115, 115, 115, 115, 115, 115, 115, 115, 115, 115, 115, 115, 115, 115, 115, 115, 115, 115, 115, 115, 115, 115, 115], 0⟩]⟩
def aw13 : Dk := ⟨1000, -1, false, [⟨[98], [120, 121, 122, 117], 4⟩, ⟨[99], [115, 115, 115, 115, 115, 115, 115, 115, 115, 115, 115, 115, 115, 115, 115, 115, 115, 115, 115, 115, 115, 115, 115, 115, 115, 115, 115, 115, 115, 115, 115, 115, 115, 115, 115, 115, 115, 115, 115, 115, 115, 115, 115, 115, 115, 115, 115, 115, 115, 115, 115, 115, 115, 115, 115, 115, 115, 115, 115, 115], 60⟩]⟩
def aw14 : Dk := ⟨1000, -1, false, [⟨[98], [120, 121, 122, 117], 4⟩, ⟨[99], [115, 115, 115, 115, 115, 115, 115, 115, 115, 115, 115, 115, 115, 115, 115, 115, 115, 115, 115, 115, 115, 115, 115, 115, 115, 115, 115, 115, 115, 115, 115, 115, 115, 115, 115, 115, 115, 115, 115, 115, 115, 115, 115, 115, 115, 115, 115, 115, 115, 115, 115, 115, 115, 115, 115, 115, 115, 115, 115, 115, 49, 50, 51, 52, 53, 54, 55, 56, 57], 60⟩]⟩
def aw15 : Dk := ⟨1000, -1, false, [⟨[98], [120, 121, 122, 117], 4⟩, ⟨[99], [115, 115, 115, 115, 115, 115, 115, 115, 115, 115, 115, 115, 115, 115, 115, 115, 115, 115, 115, 115, 115, 115, 115, 115, 115, 115, 115, 115, 115, 115, 115, 115, 115, 115, 115, 115, 115, 115, 115, 115, 115, 115, 115, 115, 115, 115, 115, 115, 115, 115, 115, 115, 115, 115, 115, 115, 115, 115, 115, 115, 49, 50, 0, 0], 64⟩]⟩
set_option maxRecDepth 100000 in
set_option maxHeartbeats 8000000 in
theorem awake2_any (W : World) : Calls Try.prog 32 #[] W fun x w' => x = .returned (.bool true) ∧ Below W.heap.size W w' := by
  have hnew : newD 1000 = aw0 := by rfl
  have kc := fun (w : World) (C : Array Value) (n c : Nat) => Lib.run_convert_bytes_const (P := Try.prog) w 22 5 C n c Try.underlying22 Try.underlying5
  go_enter Try.func32, Try.ntmps32
  go_wp2_with fail
  refine (new_dsk (Below.refl _ _) (by decide)).mono ?_; rintro x w0 ⟨p, rfl, h0⟩
  rw [hnew] at h0
  go_wp2_with fail
  refine (append_lit (r := 0) (nm := [97]) (bs := [120, 121, 122]) (D' := aw1) h0 (by rfl) (by decide) (by rfl) (by rfl) (by decide) (by kernel_rfl)).mono ?_; rintro x w1 ⟨rfl, h1⟩
  clear h0
  go_wp2_with fail
  refine (sync_dsk (r := 0) (nm := [97]) (D' := aw2) h1 (by rfl) (by kernel_rfl)).mono ?_; rintro x w2 ⟨rfl, h2⟩
  clear h1
  go_wp2_with fail
  refine (append_lit (r := 0) (nm := [97]) (bs := [117, 118]) (D' := aw3) h2 (by rfl) (by decide) (by rfl) (by rfl) (by decide) (by kernel_rfl)).mono ?_; rintro x w3 ⟨rfl, h3⟩
  clear h2
  go_wp2_with fail
  refine (append_lit (r := 0) (nm := [98]) (bs := [119]) (D' := aw4) h3 (by rfl) (by decide) (by rfl) (by rfl) (by decide) (by kernel_rfl)).mono ?_; rintro x w4 ⟨rfl, h4⟩
  clear h3
  go_wp2_with fail
  refine (holds_dsk (nm := [97]) (want := [120, 121, 122, 117, 118]) (b := true) h4 (by rfl) (by rfl) (by kernel_rfl)).mono ?_; rintro x w5 ⟨rfl, -, h5⟩
  clear h4
  go_wp2_with fail
  refine (crash_lit0 (ks := [1]) (D' := aw5) h5 (by rfl) (by rfl) (by decide) (by decide) (by kernel_rfl)).mono ?_; rintro x w6 ⟨rfl, h6⟩
  clear h5
  go_wp2_with fail
  refine (holds_dsk (nm := [97]) (want := [120, 121, 122, 117]) (b := true) h6 (by rfl) (by rfl) (by kernel_rfl)).mono ?_; rintro x w7 ⟨rfl, -, h7⟩
  clear h6
  go_wp2_with fail
  refine (holds_dsk (nm := [98]) (want := []) (b := true) h7 (by rfl) (by rfl) (by kernel_rfl)).mono ?_; rintro x w8 ⟨rfl, -, h8⟩
  clear h7
  go_wp2_with fail
  refine (rename_dsk (r := 0) (nm := [97]) (tn := [98]) (D' := aw6) h8 (by rfl) (by rfl) (by decide) (by kernel_rfl)).mono ?_; rintro x w9 ⟨rfl, h9⟩
  clear h8
  go_wp2_with fail
  refine (list_dsk (n := 1) (ns := [.string (bstr [98])]) h9 (by rfl) (by kernel_rfl)).mono ?_; rintro x w10 ⟨A10, c10, rfl, ho10, -, h10⟩
  clear h9
  go_wp2_with fail
  obtain ⟨bk, rfl, hbk⟩ := own_one ho10
  refine (Try.strings_Join bk 0 c10 [bstr [98]] _ _ (join_cells ho10) hbk (by decide) (by have := ho10.sl.le; exact this) (by decide)).mono ?_; rintro x w10b ⟨rfl, hb10⟩
  replace h10 := h10.below hb10
  clear ho10 hbk hb10
  have hj : (⟨(Lib.join (([bstr [98]] : List ByteArray).map (·.data.toList)) (ByteArray.mk #[32]).data.toList).toArray⟩ : ByteArray) = bstr [98] := by rfl
  go_wp2_with fail
  refine (holds_dsk (nm := [98]) (want := [120, 121, 122, 117]) (b := true) h10 (by rfl) (by rfl) (by kernel_rfl)).mono ?_; rintro x w11 ⟨rfl, -, h11⟩
  clear h10
  go_wp2_with fail
  refine (arm_dsk (D' := aw7) h11 (by decide) (by kernel_rfl)).mono ?_; rintro x w12 ⟨rfl, h12⟩
  clear h11
  go_wp2_with fail
  refine (sync_dsk (r := 0) (nm := [98]) (D' := aw8) h12 (by rfl) (by kernel_rfl)).mono ?_; rintro x w13 ⟨rfl, h13⟩
  clear h12
  go_wp2_with fail
  refine (remove_dsk (r := 15) (nm := [98]) (D' := aw9) h13 (by rfl) (by kernel_rfl)).mono ?_; rintro x w14 ⟨rfl, h14⟩
  clear h13
  go_wp2_with fail
  refine (read_dsk (nm := [98]) (bs := []) (r := 15) h14 (by rfl) (by kernel_rfl)).mono ?_; rintro x w15 ⟨A15, c15, rfl, -, -, h15⟩
  clear h14
  go_wp2_with fail
  refine (crash_lit1 (ts := [9]) (D' := aw10) h15 (by rfl) (by rfl) (by decide) (by decide) (by kernel_rfl)).mono ?_; rintro x w16 ⟨rfl, h16⟩
  clear h15
  go_wp2_with fail
  refine (holds_dsk (nm := [98]) (want := [120, 121, 122, 117]) (b := true) h16 (by rfl) (by rfl) (by kernel_rfl)).mono ?_; rintro x w17 ⟨rfl, -, h17⟩
  clear h16
  go_wp2_with fail
  refine (append_dsk (r := 16) (nm := [65]) (bs := []) (D' := aw11) h17 (Below.refl _ _) (by rfl) (by decide) (sl_nilF _) (fun _ => Apt.none _ _) (by decide) (by kernel_rfl)).mono ?_; rintro x w18 ⟨rfl, h18⟩
  clear h17
  -- LONG
  go_wp2_with fail
  refine (Try.strings_Repeat (bstr [115]) 60 _ (by decide) (by decide)).mono ?_; rintro x w19 ⟨rfl, hb19⟩
  have hlong : (⟨(Lib.repeatL (bstr [115]).data.toList 60).toArray⟩ : ByteArray) = bstr [115, 115, 115, 115, 115, 115, 115, 115, 115, 115, 115, 115, 115, 115, 115, 115, 115, 115, 115, 115, 115, 115, 115, 115, 115, 115, 115, 115, 115, 115, 115, 115, 115, 115, 115, 115, 115, 115, 115, 115, 115, 115, 115, 115, 115, 115, 115, 115, 115, 115, 115, 115, 115, 115, 115, 115, 115, 115, 115, 115] := by rfl
  rw [hlong]
  replace h18 := h18.below hb19
  clear hb19 hlong
  go_wp2_with fail
  rw [Lib.run_convert_string_bytes (P := Try.prog) _ 9 22 5 _ Try.underlying9 Try.underlying22 Try.underlying5]
  simp only [Result.andThen, Oper.upon]
  have hcs := conv_sl w19 [115, 115, 115, 115, 115, 115, 115, 115, 115, 115, 115, 115, 115, 115, 115, 115, 115, 115, 115, 115, 115, 115, 115, 115, 115, 115, 115, 115, 115, 115, 115, 115, 115, 115, 115, 115, 115, 115, 115, 115, 115, 115, 115, 115, 115, 115, 115, 115, 115, 115, 115, 115, 115, 115, 115, 115, 115, 115, 115, 115] (by decide)
  obtain ⟨wc, hwc⟩ : ∃ wc, wc = Lib.bytesWorld w19 5 (bstr [115, 115, 115, 115, 115, 115, 115, 115, 115, 115, 115, 115, 115, 115, 115, 115, 115, 115, 115, 115, 115, 115, 115, 115, 115, 115, 115, 115, 115, 115, 115, 115, 115, 115, 115, 115, 115, 115, 115, 115, 115, 115, 115, 115, 115, 115, 115, 115, 115, 115, 115, 115, 115, 115, 115, 115, 115, 115, 115, 115]) := ⟨_, rfl⟩
  rw [← hwc] at hcs
  have hsz : (bstr [115, 115, 115, 115, 115, 115, 115, 115, 115, 115, 115, 115, 115, 115, 115, 115, 115, 115, 115, 115, 115, 115, 115, 115, 115, 115, 115, 115, 115, 115, 115, 115, 115, 115, 115, 115, 115, 115, 115, 115, 115, 115, 115, 115, 115, 115, 115, 115, 115, 115, 115, 115, 115, 115, 115, 115, 115, 115, 115, 115]).size = 60 := by rfl
  rw [← hwc, hsz]
  clear hwc
  go_wp2_with fail
  refine (append_dsk (r := 0) (nm := [99]) (bs := [115, 115, 115, 115, 115, 115, 115, 115, 115, 115, 115, 115, 115, 115, 115, 115, 115, 115, 115, 115, 115, 115, 115, 115, 115, 115, 115, 115, 115, 115, 115, 115, 115, 115, 115, 115, 115, 115, 115, 115, 115, 115, 115, 115, 115, 115, 115, 115, 115, 115, 115, 115, 115, 115, 115, 115, 115, 115, 115, 115]) (D' := aw12) h18 hcs.2 (by rfl) (by decide) hcs.1 (fun _ => Apt.new _ _ _) (by decide) (by kernel_rfl)).mono ?_; rintro x w20 ⟨rfl, h20⟩
  clear h18 hcs
  go_wp2_with fail
  refine (sync_dsk (r := 0) (nm := [99]) (D' := aw13) h20 (by rfl) (by kernel_rfl)).mono ?_; rintro x w21 ⟨rfl, h21⟩
  clear h20
  go_wp2_with fail
  refine (append_lit (r := 0) (nm := [99]) (bs := [49, 50, 51, 52, 53, 54, 55, 56, 57]) (D' := aw14) h21 (by rfl) (by decide) (by rfl) (by rfl) (by decide) (by kernel_rfl)).mono ?_; rintro x w22 ⟨rfl, h22⟩
  clear h21
  go_wp2_with fail
  refine (crash_lit2 (ks := [0, 2]) (ts := [0, 9]) (D' := aw15) h22 (by rfl) (by rfl) (by rfl) (by rfl) (by rfl) (by decide) (by decide) (by decide) (by decide) (by kernel_rfl)).mono ?_; rintro x w23 ⟨rfl, h23⟩
  clear h22
  have hsz2 : (ByteArray.mk #[49, 50, 0, 0]).size = 4 := by rfl
  go_wp2_with fail
  refine (holds_dsk (nm := [99]) (want := [115, 115, 115, 115, 115, 115, 115, 115, 115, 115, 115, 115, 115, 115, 115, 115, 115, 115, 115, 115, 115, 115, 115, 115, 115, 115, 115, 115, 115, 115, 115, 115, 115, 115, 115, 115, 115, 115, 115, 115, 115, 115, 115, 115, 115, 115, 115, 115, 115, 115, 115, 115, 115, 115, 115, 115, 115, 115, 115, 115, 49, 50, 0, 0]) (b := true) h23 (by rfl) (by rfl) (by kernel_rfl)).mono ?_; rintro x w24 ⟨rfl, -, h24⟩
  clear h23
  go_wp2_with fail
  go_ret
  exact ⟨rfl, h24.bel⟩
end Go.Proofs.Ytemegkapmgcffaa

/- Slices of structs that came in. -/
namespace Go.Proofs.Ytemegkapmgcffaa
open Go.RowKit Go.ChangeShapes Go.WideShapes

theorem flatMap_inv {α : Type} (f : α → List Value) (s : Nat) (hs : 0 < s) (hf : ∀ x, (f x).length = s) (es : List α) (j : Nat) (u : Value) (h : (es.flatMap f)[j]? = some u) : ∃ e, es[j / s]? = some e ∧ (f e)[j % s]? = some u := by
  have hj := (List.getElem?_eq_some_iff.1 h).1
  rw [flatMap_len f s hf] at hj
  have hk : j / s < es.length := Nat.div_lt_of_lt_mul (by rw [Nat.mul_comm]; exact hj)
  have hm : j % s < s := Nat.mod_lt _ hs
  have he : es[j / s]? = some es[j / s] := List.getElem?_eq_getElem hk
  have hv : (f es[j / s])[j % s]? = some ((f es[j / s])[j % s]'(by rw [hf]; exact hm)) := List.getElem?_eq_getElem _
  have h2 := flatMap_get f s hf he hv
  rw [Nat.div_add_mod' j s, h] at h2
  exact ⟨_, he, by rw [hv, ← h2]⟩
theorem rows_open {α H : Type} [Inhabited α] {enc : TypeId × Value → H} {w : World} {fuel : Nat} {v : Value} {x : DataW H × List MemPlace} (tS tE : TypeId) (sz : Nat) (hsz : 0 < sz) (hu : Try.prog.underlying tS = some (.slice tE)) (hc : Try.prog.cellsOf tE = sz) (f : α → List Value) (hf : ∀ e, (f e).length = sz) (P : α → Prop)
    (each : ∀ {fuel : Nat} {cs : List Value} {x : DataW H × List MemPlace}, cs.length = sz → DataW.trod enc Try.prog w 0 (fun _ => true) true fuel tE cs = some x → ∃ e, P e ∧ cs = f e)
    (h : DataW.trod enc Try.prog w 0 (fun _ => true) true fuel tS [v] = some x) : ∃ a n c, v = .slice a n c ∧ n ≤ 9223372036854775807 ∧ c ≤ 9223372036854775807 ∧ ∃ es : List α, (∀ e, e ∈ es → P e) ∧ Sl w sz a n c (es.flatMap f) := by
  rcases Go.Deep.open_slice hu h with ⟨hcs, _⟩ | ⟨ad, len, cap, m, nf, D, Pl, hcs, _, hl, hm, hmm, _, hx⟩
  · simp only [List.cons.injEq, and_true] at hcs
    exact ⟨none, 0, 0, hcs, Nat.zero_le _, Nat.zero_le _, [], (fun e he => absurd he (by simp)), Sl.nil w sz⟩
  · simp only [List.cons.injEq, and_true] at hcs
    refine ⟨some ad, len, cap, hcs, by unfold maxLen at hm; omega, by unfold maxLen at hm; omega, ?_⟩
    rw [hc] at hx
    simp only [if_true] at hmm
    have each2 : ∀ i, i < len → ∃ e : α, P e ∧ ∀ j u, (f e)[j]? = some u → w.cell? (ad.add (i * sz + j)) = some u := by
      intro i hi
      obtain ⟨cs', h1, h2⟩ := hx i (by omega)
      obtain ⟨_, hlen, hat⟩ := World.cells?_some h1
      obtain ⟨e, hp, rfl⟩ := each hlen h2
      refine ⟨e, hp, fun j u hj => ?_⟩
      have hjl : j < sz := by have := (List.getElem?_eq_some_iff.1 hj).1; rwa [hf] at this
      rw [← addr_add_add, hat j hjl, hj]
    obtain ⟨y, hy⟩ := Go.Deep.choose_lt each2
    refine ⟨(List.range len).map y, fun e he => ?_, ⟨fun j u hj => ⟨ad, rfl, ?_⟩, by rw [flatMap_len f sz hf]; simp, hl, fun h => by cases h⟩⟩
    · simp only [List.mem_map, List.mem_range] at he
      obtain ⟨i, hi, rfl⟩ := he
      exact (hy i hi).1
    · obtain ⟨e, he, hu⟩ := flatMap_inv f sz hsz hf _ j u hj
      rw [List.getElem?_map] at he
      by_cases hjn : j / sz < len
      · rw [List.getElem?_range hjn] at he
        simp only [Option.map_some, Option.some.injEq] at he
        subst he
        have := (hy (j / sz) hjn).2 (j % sz) u hu
        rwa [Nat.div_add_mod' j sz] at this
      · rw [List.getElem?_eq_none (by simp; omega)] at he; simp at he
theorem trod_arr2 {H : Type} {enc : TypeId × Value → H} {P : Program} {w : World} {base : Nat} {spare : Nat → Bool} {held : Bool} {t e : TypeId} {fuel : Nat} {c0 c1 : Value} {x : DataW H × List MemPlace} (ht : P.underlying t = some (.array 2 e)) (hce : P.cellsOf e = 1)
    (h : DataW.trod enc P w base spare held fuel t [c0, c1] = some x) :
    ∃ y0 y1 n, x = (.agg [y0.1, y1.1], y0.2 ++ y1.2) ∧ DataW.trod enc P w base spare held n e [c0] = some y0 ∧ DataW.trod enc P w base spare held n e [c1] = some y1 := by
  cases fuel with
  | zero => simp [DataW.trod] at h
  | succ n =>
    unfold DataW.trod at h
    rw [ht] at h
    have r2 : List.range 2 = [0, 1] := rfl
    simp [r2, hce] at h
    obtain ⟨_, h⟩ := h
    cases h0 : DataW.trod enc P w base spare held n e [c0] with
    | none => simp [h0] at h
    | some y0 =>
      cases h1 : DataW.trod enc P w base spare held n e [c1] with
      | none => simp [h0, h1] at h
      | some y1 =>
        simp [h0, h1] at h
        exact ⟨y0, y1, n, h.symm, h0, h1⟩
theorem int_range {x : Int} (w : (Lit.int .i64 x).wf = true) : -9223372036854775808 ≤ x ∧ x ≤ 9223372036854775807 := by
  simp [Lit.wf, IntKind.min, IntKind.max, IntKind.signed, IntKind.bits] at w
  omega
end Go.Proofs.Ytemegkapmgcffaa

/- Bytes and whole numbers that came in, in the words of Sl. -/
namespace Go.Proofs.Ytemegkapmgcffaa
open Go.RowKit Go.ChangeShapes Go.WideShapes

theorem bytes_of_ints (zs : List Int) (h : ∀ n ∈ zs, (Lit.int .u8 n).wf = true) : ∃ l : List UInt8, zs.map (Value.int .u8) = bytesV l := by
  induction zs with
  | nil => exact ⟨[], rfl⟩
  | cons z zs ih =>
    obtain ⟨l, hl⟩ := ih (fun n hn => h n (List.mem_cons_of_mem _ hn))
    have hz := h z (List.mem_cons_self ..)
    have hz2 : 0 ≤ z ∧ z ≤ 255 := by
      simp [Lit.wf, IntKind.min, IntKind.max, IntKind.signed, IntKind.bits] at hz; omega
    refine ⟨UInt8.ofNat z.toNat :: l, ?_⟩
    have e : ((UInt8.ofNat z.toNat).toNat : Int) = z := by
      rw [UInt8.toNat_ofNat']; omega
    simp only [List.map_cons, bytesV, byteV, e]
    rw [hl]; rfl
theorem sl_of_rowK {k : IntKind} {w : World} {a : Option Addr} {len cap : Nat} {zs : List Int}
    (h : (a = none ∧ len = 0 ∧ cap = 0 ∧ zs = []) ∨ ∃ x, a = some x ∧ len ≤ cap ∧ cap ≤ maxLen ∧ zs.length = cap ∧ (∀ i, i < zs.length → w.cell? (x.add i) = some (.int k (zs.getD i 0))) ∧ ∀ n ∈ zs, (Lit.int k n).wf = true) :
    ∃ l : List Int, Sl w 1 a len cap (l.map (Value.int k)) ∧ len ≤ 9223372036854775807 ∧ ∀ n ∈ l, (Lit.int k n).wf = true := by
  rcases h with ⟨rfl, rfl, rfl, rfl⟩ | ⟨x, rfl, hl, hm, hz, hcell, hwz⟩
  · exact ⟨[], Sl.nil w 1, by omega, by simp⟩
  · refine ⟨zs.take len, ⟨?_, ?_, hl, fun h => by cases h⟩, by unfold maxLen at hm; omega, fun n hn => hwz n (List.mem_of_mem_take hn)⟩
    · intro j u hj
      rw [List.getElem?_map] at hj
      cases hj2 : (zs.take len)[j]? with
      | none => rw [hj2] at hj; simp at hj
      | some z =>
        rw [hj2] at hj; simp at hj; subst hj
        rw [List.getElem?_take] at hj2
        split at hj2
        · refine ⟨x, rfl, ?_⟩
          rw [hcell j (List.getElem?_eq_some_iff.1 hj2).1, List.getD_eq_getElem?_getD, hj2]; rfl
        · cases hj2
    · simp; omega
theorem u8_range {b : Int} (h : (Lit.int .u8 b).wf = true) : 0 ≤ b ∧ b ≤ 255 := by
  simp [Lit.wf, IntKind.min, IntKind.max, IntKind.signed, IntKind.bits] at h
  omega
theorem u16_range {b : Int} (h : (Lit.int .u16 b).wf = true) : 0 ≤ b ∧ b ≤ 65535 := by
  simp [Lit.wf, IntKind.min, IntKind.max, IntKind.signed, IntKind.bits] at h
  omega
def I64 (l : List Int) : Prop := ∀ x, x ∈ l → -9223372036854775808 ≤ x ∧ x ≤ 9223372036854775807
def intsV (l : List Int) : List Value := l.map fun x => .int .i64 x
section
variable {H : Type} {enc : TypeId × Value → H} {w : World} {fuel : Nat} {v : Value} {x : DataW H × List MemPlace}
theorem ints_open (h : DataW.trod enc Try.prog w 0 (fun _ => true) true fuel 53 [v] = some x) : ∃ a n c, v = .slice a n c ∧ ∃ l : List Int, Sl w 1 a n c (intsV l) ∧ n ≤ 9223372036854775807 ∧ I64 l := by
  rcases open_ints Try.underlying53 Try.underlying3 (by kernel_rfl) h with ⟨hcs, _⟩ | ⟨ad, l, c, zs, hcs, _, hl, hm, hz, _, hcell, hwz⟩
  · simp only [List.cons.injEq, and_true] at hcs
    exact ⟨none, 0, 0, hcs, [], Sl.nil w 1, by omega, fun x hx => by cases hx⟩
  · simp only [List.cons.injEq, and_true] at hcs
    obtain ⟨l2, h1, h2, h3⟩ := sl_of_rowK (k := .i64) (zs := zs) (a := some ad) (len := l) (cap := c) (w := w) (.inr ⟨_, rfl, hl, hm, by simpa using hz, hcell, hwz⟩)
    exact ⟨_, _, _, hcs, l2, h1, h2, fun x hx => int_range (h3 x hx)⟩
theorem bytes_open (h : DataW.trod enc Try.prog w 0 (fun _ => true) true fuel 22 [v] = some x) : ∃ a n c, v = .slice a n c ∧ ∃ l : List UInt8, Sl w 1 a n c (bytesV l) ∧ n ≤ 9223372036854775807 := by
  rcases open_ints Try.underlying22 Try.underlying5 (by kernel_rfl) h with ⟨hcs, _⟩ | ⟨ad, l, c, zs, hcs, _, hl, hm, hz, _, hcell, hwz⟩
  · simp only [List.cons.injEq, and_true] at hcs
    exact ⟨none, 0, 0, hcs, [], Sl.nil w 1, by omega⟩
  · simp only [List.cons.injEq, and_true] at hcs
    obtain ⟨l2, h1, h2, h3⟩ := sl_of_rowK (k := .u8) (zs := zs) (a := some ad) (len := l) (cap := c) (w := w) (.inr ⟨_, rfl, hl, hm, by simpa using hz, hcell, hwz⟩)
    obtain ⟨l3, h4⟩ := bytes_of_ints l2 h3
    rw [h4] at h1
    exact ⟨_, _, _, hcs, l3, h1, h2⟩
end
/-- a deed that came in, and where its slices lie -/
structure Ded where
  op : Int
  a : List UInt8
  t2 : List UInt8
  b : List UInt8
  n : Int
  ks : List Int
  ts : List Int
  bA : Option Addr
  bc : Nat
  kA : Option Addr
  kc : Nat
  tA : Option Addr
  tc : Nat
def dedC (d : Ded) : List Value := [.int .u8 d.op, .string (bstr d.a), .string (bstr d.t2), .slice d.bA d.b.length d.bc, .int .i64 d.n, .slice d.kA d.ks.length d.kc, .slice d.tA d.ts.length d.tc]
def flatD (es : List Ded) : List Value := es.flatMap dedC
structure OkDed (w : World) (d : Ded) : Prop where
  op : 0 ≤ d.op ∧ d.op ≤ 255
  a : d.a.length ≤ 9223372036854775807
  t2 : d.t2.length ≤ 9223372036854775807
  b : Sl w 1 d.bA d.b.length d.bc (bytesV d.b) ∧ d.b.length ≤ 9223372036854775807
  n : -9223372036854775808 ≤ d.n ∧ d.n ≤ 9223372036854775807
  ks : Sl w 1 d.kA d.ks.length d.kc (intsV d.ks) ∧ d.ks.length ≤ 9223372036854775807 ∧ I64 d.ks
  ts : Sl w 1 d.tA d.ts.length d.tc (intsV d.ts) ∧ d.ts.length ≤ 9223372036854775807 ∧ I64 d.ts
theorem list7 {α : Type} (l : List α) (h : l.length = 7) : ∃ a b c d e f g, l = [a, b, c, d, e, f, g] := by
  match l, h with
  | [a, b, c, d, e, f, g], _ => exact ⟨a, b, c, d, e, f, g, rfl⟩
theorem sl_n {w : World} {A : Option Addr} {n c : Nat} {l : List Int} (h : Sl w 1 A n c (intsV l)) : l.length = n := by have := h.len; simpa [intsV] using this
set_option maxRecDepth 100000 in
set_option maxHeartbeats 2000000 in
theorem ded_cells {H : Type} {enc : TypeId × Value → H} {W : World} {fuel : Nat} {cs : List Value} {x : DataW H × List MemPlace}
    (hl : cs.length = 7) (h : DataW.trod enc Try.prog W 0 (fun _ => true) true fuel 70 cs = some x) : ∃ e : Ded, OkDed W e ∧ cs = dedC e := by
  obtain ⟨c0, c1, c2, c3, c4, c5, c6, rfl⟩ := list7 cs hl
  obtain ⟨xs, n, _, _, _, hxl, hf⟩ := DataW.trod_struct Try.underlying70 h
  obtain ⟨y0, y1, y2, y3, y4, y5, y6, rfl⟩ := list7 xs (by simpa using hxl)
  have k0 : DataW.trod enc Try.prog W 0 (fun _ => true) true n 5 ((([c0, c1, c2, c3, c4, c5, c6] : List Value).drop 0).take (Try.prog.cellsOf 5)) = some y0 := hf 0 _ rfl
  rw [show Try.prog.cellsOf 5 = 1 by kernel_rfl] at k0
  simp only [List.drop, List.take] at k0
  have k1 : DataW.trod enc Try.prog W 0 (fun _ => true) true n 9 ((([c0, c1, c2, c3, c4, c5, c6] : List Value).drop 1).take (Try.prog.cellsOf 9)) = some y1 := hf 1 _ rfl
  rw [show Try.prog.cellsOf 9 = 1 by kernel_rfl] at k1
  simp only [List.drop, List.take] at k1
  have k2 : DataW.trod enc Try.prog W 0 (fun _ => true) true n 9 ((([c0, c1, c2, c3, c4, c5, c6] : List Value).drop 2).take (Try.prog.cellsOf 9)) = some y2 := hf 2 _ rfl
  rw [show Try.prog.cellsOf 9 = 1 by kernel_rfl] at k2
  simp only [List.drop, List.take] at k2
  have k3 : DataW.trod enc Try.prog W 0 (fun _ => true) true n 22 ((([c0, c1, c2, c3, c4, c5, c6] : List Value).drop 3).take (Try.prog.cellsOf 22)) = some y3 := hf 3 _ rfl
  rw [show Try.prog.cellsOf 22 = 1 by kernel_rfl] at k3
  simp only [List.drop, List.take] at k3
  have k4 : DataW.trod enc Try.prog W 0 (fun _ => true) true n 3 ((([c0, c1, c2, c3, c4, c5, c6] : List Value).drop 4).take (Try.prog.cellsOf 3)) = some y4 := hf 4 _ rfl
  rw [show Try.prog.cellsOf 3 = 1 by kernel_rfl] at k4
  simp only [List.drop, List.take] at k4
  have k5 : DataW.trod enc Try.prog W 0 (fun _ => true) true n 53 ((([c0, c1, c2, c3, c4, c5, c6] : List Value).drop 5).take (Try.prog.cellsOf 53)) = some y5 := hf 5 _ rfl
  rw [show Try.prog.cellsOf 53 = 1 by kernel_rfl] at k5
  simp only [List.drop, List.take] at k5
  have k6 : DataW.trod enc Try.prog W 0 (fun _ => true) true n 53 ((([c0, c1, c2, c3, c4, c5, c6] : List Value).drop 6).take (Try.prog.cellsOf 53)) = some y6 := hf 6 _ rfl
  rw [show Try.prog.cellsOf 53 = 1 by kernel_rfl] at k6
  simp only [List.drop, List.take] at k6
  obtain ⟨x0, e0, _, w0⟩ := DataW.trod_int Try.underlying5 k0
  obtain ⟨x1, e1, _, w1⟩ := DataW.trod_string Try.underlying9 k1
  obtain ⟨x2, e2, _, w2⟩ := DataW.trod_string Try.underlying9 k2
  obtain ⟨A3, n3, q3, rfl, l3, s3, m3⟩ := bytes_open k3
  obtain ⟨x4, e4, _, w4⟩ := DataW.trod_int Try.underlying3 k4
  obtain ⟨A5, n5, q5, rfl, l5, s5, m5, i5⟩ := ints_open k5
  obtain ⟨A6, n6, q6, rfl, l6, s6, m6, i6⟩ := ints_open k6
  simp only [List.cons.injEq, and_true] at e0 e1 e2 e4
  subst e0 e1 e2 e4
  obtain rfl := s3.blen
  obtain rfl := sl_n s5
  obtain rfl := sl_n s6
  refine ⟨⟨x0, x1.data.toList, x2.data.toList, l3, x4, l5, l6, A3, q3, A5, q5, A6, q6⟩, ⟨?_, by simpa [maxLen] using w1, by simpa [maxLen] using w2, ⟨s3, m3⟩, int_range w4, ⟨s5, m5, i5⟩, ⟨s6, m6, i6⟩⟩, by unfold dedC; rw [← bstr_of x1, ← bstr_of x2]⟩
  simp [Lit.wf, IntKind.min, IntKind.max, IntKind.signed, IntKind.bits] at w0
  simp only
  omega
theorem deds_open {H : Type} {enc : TypeId × Value → H} {w : World} {fuel : Nat} {v : Value} {x : DataW H × List MemPlace}
    (h : DataW.trod enc Try.prog w 0 (fun _ => true) true fuel 68 [v] = some x) : ∃ a n c, v = .slice a n c ∧ n ≤ 9223372036854775807 ∧ c ≤ 9223372036854775807 ∧ ∃ es : List Ded, (∀ e, e ∈ es → OkDed w e) ∧ Sl w 7 a n c (flatD es) := by
  have : Inhabited Ded := ⟨⟨0, [], [], [], 0, [], [], none, 0, none, 0, none, 0⟩⟩
  exact rows_open 68 70 7 (by omega) Try.underlying68 (by kernel_rfl) dedC (fun _ => rfl) (fun e => OkDed w e) (fun hl h => ded_cells hl h) h
theorem OkDed.below {w w' : World} {d : Ded} (h : OkDed w d) (hb : Below w.heap.size w w') : OkDed w' d := ⟨h.op, h.a, h.t2, ⟨h.b.1.below hb, h.b.2⟩, h.n, ⟨h.ks.1.below hb, h.ks.2⟩, ⟨h.ts.1.below hb, h.ts.2⟩⟩
theorem slD_at {w : World} {ad : Addr} {m d : Nat} {es : List Ded} (h : Sl w 7 (some ad) m d (flatD es)) {k : Nat} {e : Ded} (hk : es[k]? = some e) (j : Nat) (u : Value) (hj : (dedC e)[j]? = some u) : w.cell? ((ad.add (k * 7)).add j) = some u := by
  obtain ⟨a, h1, h2⟩ := h.cells (k * 7 + j) u (flatMap_get dedC 7 (fun _ => rfl) hk hj)
  cases h1
  rwa [addr_add_add]
theorem slD_len {w : World} {A : Option Addr} {m d : Nat} {es : List Ded} (h : Sl w 7 A m d (flatD es)) : es.length = m := by
  have := h.len
  unfold flatD at this
  rw [flatMap_len dedC 7 (fun _ => rfl)] at this
  omega
end Go.Proofs.Ytemegkapmgcffaa
