import Derived.Test.YtemegkapmgcffaaMRc
import Derived.Test.YtemegkapmgcffaaPureRoot
/- Roots: the numbers of the chapter, plain (printed by wip/gen/grtnum.py). -/
namespace Go.Proofs.Ytemegkapmgcffaa
open Go.RowKit
set_option linter.unusedSimpArgs false
set_option linter.unusedVariables false

def n10 : List UInt8 := [3, 1, 0, 0, 254, 131, 179, 37, 165]
theorem n10_frm : frm [1, 0, 0] = n10 := by
  unfold frm
  rw [show ([1, 0, 0] : List UInt8).length = 3 from rfl, uv_small 3 (by decide)]
  decide +kernel
theorem n10_bytes : bytesR 1 0 [] = (n10, 0) := by
  unfold bytesR
  rw [if_pos (by decide)]
  have h : rootB (1 : Int).toNat (0 : Int).toNat [] = [1, 0, 0] := by
    show uv 1 ++ (uv 0 ++ (uv 0 ++ [])) = _
    rw [uv_small 1 (by decide), uv_small 0 (by decide)]
    rfl
  rw [h, n10_frm]
def nabc : List UInt8 := [6, 1, 0, 3, 97, 98, 99, 162, 78, 69, 56, 165]
theorem nabc_frm : frm [1, 0, 3, 97, 98, 99] = nabc := by
  unfold frm
  rw [show ([1, 0, 3, 97, 98, 99] : List UInt8).length = 6 from rfl, uv_small 6 (by decide)]
  decide +kernel
theorem nabc_bytes : bytesR 1 0 [97, 98, 99] = (nabc, 0) := by
  unfold bytesR
  rw [if_pos (by decide)]
  have h : rootB (1 : Int).toNat (0 : Int).toNat [97, 98, 99] = [1, 0, 3, 97, 98, 99] := by
    show uv 1 ++ (uv 0 ++ (uv 3 ++ [97, 98, 99])) = _
    rw [uv_small 1 (by decide), uv_small 0 (by decide), uv_small 3 (by decide)]
    rfl
  rw [h, nabc_frm]
def n21 : List UInt8 := [3, 2, 1, 0, 229, 222, 60, 61, 165]
theorem n21_frm : frm [2, 1, 0] = n21 := by
  unfold frm
  rw [show ([2, 1, 0] : List UInt8).length = 3 from rfl, uv_small 3 (by decide)]
  decide +kernel
theorem n21_bytes : bytesR 2 1 [] = (n21, 0) := by
  unfold bytesR
  rw [if_pos (by decide)]
  have h : rootB (2 : Int).toNat (1 : Int).toNat [] = [2, 1, 0] := by
    show uv 2 ++ (uv 1 ++ (uv 0 ++ [])) = _
    rw [uv_small 2 (by decide), uv_small 1 (by decide), uv_small 0 (by decide)]
    rfl
  rw [h, n21_frm]
def n13 : List UInt8 := [3, 1, 3, 0, 213, 174, 224, 230, 165]
theorem n13_frm : frm [1, 3, 0] = n13 := by
  unfold frm
  rw [show ([1, 3, 0] : List UInt8).length = 3 from rfl, uv_small 3 (by decide)]
  decide +kernel
theorem n13_bytes : bytesR 1 3 [] = (n13, 0) := by
  unfold bytesR
  rw [if_pos (by decide)]
  have h : rootB (1 : Int).toNat (3 : Int).toNat [] = [1, 3, 0] := by
    show uv 1 ++ (uv 3 ++ (uv 0 ++ [])) = _
    rw [uv_small 1 (by decide), uv_small 3 (by decide), uv_small 0 (by decide)]
    rfl
  rw [h, n13_frm]
def n24 : List UInt8 := [3, 2, 4, 0, 152, 169, 200, 120, 165]
theorem n24_frm : frm [2, 4, 0] = n24 := by
  unfold frm
  rw [show ([2, 4, 0] : List UInt8).length = 3 from rfl, uv_small 3 (by decide)]
  decide +kernel
theorem n24_bytes : bytesR 2 4 [] = (n24, 0) := by
  unfold bytesR
  rw [if_pos (by decide)]
  have h : rootB (2 : Int).toNat (4 : Int).toNat [] = [2, 4, 0] := by
    show uv 2 ++ (uv 4 ++ (uv 0 ++ [])) = _
    rw [uv_small 2 (by decide), uv_small 4 (by decide), uv_small 0 (by decide)]
    rfl
  rw [h, n24_frm]
def nn0 : List UInt8 := [3, 0, 0, 0, 255, 65, 217, 18, 165]
theorem nn0_frm : frm [0, 0, 0] = nn0 := by
  unfold frm
  rw [show ([0, 0, 0] : List UInt8).length = 3 from rfl, uv_small 3 (by decide)]
  decide +kernel
set_option maxRecDepth 100000 in
theorem nn0_parse : parseF (frm [0, 0, 0]) = (⟨0, 0, []⟩, 10) := by
  rw [nn0_frm]
  decide +kernel
def nn1 : List UInt8 := [2, 1, 0, 88, 194, 35, 190, 165]
theorem nn1_frm : frm [1, 0] = nn1 := by
  unfold frm
  rw [show ([1, 0] : List UInt8).length = 2 from rfl, uv_small 2 (by decide)]
  decide +kernel
set_option maxRecDepth 100000 in
theorem nn1_parse : parseF (frm [1, 0]) = (⟨0, 0, []⟩, 10) := by
  rw [nn1_frm]
  decide +kernel
def nn2 : List UInt8 := [3, 1, 0, 1, 137, 132, 131, 179, 165]
theorem nn2_frm : frm [1, 0, 1] = nn2 := by
  unfold frm
  rw [show ([1, 0, 1] : List UInt8).length = 3 from rfl, uv_small 3 (by decide)]
  decide +kernel
set_option maxRecDepth 100000 in
theorem nn2_parse : parseF (frm [1, 0, 1]) = (⟨0, 0, []⟩, 10) := by
  rw [nn2_frm]
  decide +kernel
def nn3 : List UInt8 := [4, 1, 0, 0, 0, 153, 248, 184, 121, 165]
theorem nn3_frm : frm [1, 0, 0, 0] = nn3 := by
  unfold frm
  rw [show ([1, 0, 0, 0] : List UInt8).length = 4 from rfl, uv_small 4 (by decide)]
  decide +kernel
set_option maxRecDepth 100000 in
theorem nn3_parse : parseF (frm [1, 0, 0, 0]) = (⟨0, 0, []⟩, 10) := by
  rw [nn3_frm]
  decide +kernel
def nn4 : List UInt8 := [4, 129, 0, 0, 0, 116, 161, 14, 66, 165]
theorem nn4_frm : frm [129, 0, 0, 0] = nn4 := by
  unfold frm
  rw [show ([129, 0, 0, 0] : List UInt8).length = 4 from rfl, uv_small 4 (by decide)]
  decide +kernel
set_option maxRecDepth 100000 in
theorem nn4_parse : parseF (frm [129, 0, 0, 0]) = (⟨0, 0, []⟩, 10) := by
  rw [nn4_frm]
  decide +kernel
def na0 : Dk := ⟨10, -1, false, []⟩
def na1 : Dk := ⟨10, -1, false, [⟨rn1, n10, 9⟩]⟩
def xa1 : Dk := ⟨1000, -1, false, [⟨rn1, n13, 9⟩]⟩
def xa2 : Dk := ⟨1000, -1, false, [⟨rnw, [116, 111, 114, 110], 0⟩, ⟨rn1, n13, 9⟩]⟩
def xa3 : Dk := ⟨1000, -1, false, [⟨rn0, n24, 9⟩, ⟨rn1, n13, 9⟩]⟩
def xa4 : Dk := ⟨1000, 0, false, [⟨rn0, n24, 9⟩, ⟨rn1, n13, 9⟩]⟩
def xa5 : Dk := ⟨1000, -1, true, [⟨rn0, n24, 9⟩, ⟨rn1, n13, 9⟩]⟩
set_option maxRecDepth 100000 in
theorem na0_root : rootD na0 = rt0 := by decide +kernel
set_option maxRecDepth 100000 in
theorem na1_root : rootD na1 = ⟨1, 0, []⟩ := by decide +kernel
set_option maxRecDepth 100000 in
theorem xa2_root : rootD xa2 = ⟨1, 3, []⟩ := by decide +kernel
set_option maxRecDepth 100000 in
theorem na0_abc : writeF na0 0 [97, 98, 99] = (na0, rt0, 5) := by
  rw [writeF_at (q := rt0) rfl na0_root nabc_bytes]
  decide +kernel
set_option maxRecDepth 100000 in
theorem na0_write : writeF na0 0 [] = (na1, ⟨1, 0, []⟩, 0) := by
  rw [writeF_at (q := rt0) rfl na0_root n10_bytes]
  decide +kernel
theorem na1_bad : writeF na1 (-1) [] = (na1, rt0, 2) := by
  unfold writeF
  rw [if_neg (by decide), na1_root]
  decide +kernel
set_option maxRecDepth 100000 in
theorem na1_full : writeF na1 1 [] = (na1, rt0, 5) := by
  rw [writeF_at (q := ⟨1, 0, []⟩) rfl na1_root n21_bytes]
  decide +kernel
theorem na1_is : isRB na1 1 0 [] = true := by
  unfold isRB readRD
  rw [na1_root]
  decide +kernel
set_option maxRecDepth 100000 in
theorem xa0_write : writeF ra0 3 [] = (xa1, ⟨1, 3, []⟩, 0) := by
  rw [writeF_at (q := rt0) rfl ra0_root n13_bytes]
  decide +kernel
set_option maxRecDepth 100000 in
theorem xa1_torn : appendD xa1 rnw [116, 111, 114, 110] = (0, xa2) := by decide +kernel
set_option maxRecDepth 100000 in
theorem xa2_write : writeF xa2 4 [] = (xa3, ⟨2, 4, []⟩, 0) := by
  rw [writeF_at (q := ⟨1, 3, []⟩) rfl xa2_root n24_bytes]
  decide +kernel
theorem xa3_arm : armD xa3 0 = xa4 := by decide +kernel
set_option maxRecDepth 100000 in
theorem xa4_sync : syncD xa4 rn0 = (15, xa5) := by decide +kernel
theorem xa5_read : readRD xa5 = (rt0, false, 15) := by rfl
theorem xa5_write : writeF xa5 0 [] = (xa5, rt0, 15) := write_dark rfl
theorem parse_more {b r : List UInt8} (h0 : 0 < b.length) (h1 : b.length ≤ 1048576) (hr : 0 < r.length) : parseF (frm b ++ r) = (⟨0, 0, []⟩, 10) := by
  have h := fg_frm [] b r 0 rfl h0 h1
  simp only [List.nil_append] at h
  unfold parseF
  rw [if_neg]
  rintro ⟨⟨_, h2⟩, _⟩
  rw [h] at h2
  simp only [List.length_append] at h2
  simp only [List.length_nil] at h2
  omega
theorem parse_nil : parseF [] = (⟨0, 0, []⟩, 10) := by decide +kernel
theorem long_bytes : ∃ lb, bytesR 1099511627776 576460752303423488 (List.replicate 524288 0) = (lb, 0) ∧ parseF (lb ++ [0]) = (⟨0, 0, []⟩, 10) ∧ lb.length ≤ 100000000 := by
  have hl := bytesR_len 1099511627776 576460752303423488 (List.replicate 524288 0)
  have hr : rightR 1099511627776 576460752303423488 (List.replicate 524288 (0 : UInt8)).length = true := by rw [List.length_replicate]; decide
  have he : bytesR 1099511627776 576460752303423488 (List.replicate 524288 0) = (frm (rootB (1099511627776 : Int).toNat (576460752303423488 : Int).toNat (List.replicate 524288 0)), 0) := by
    unfold bytesR
    rw [if_pos hr]
  rw [he] at hl
  refine ⟨_, he, ?_, hl⟩
  have g1 := uv_len_ten 1099511627776 (by omega)
  have g2 := uv_len_ten 576460752303423488 (by omega)
  have g3 := uv_len_ten 524288 (by omega)
  have e : (rootB (1099511627776 : Int).toNat (576460752303423488 : Int).toNat (List.replicate 524288 0)).length = (uv 1099511627776).length + ((uv 576460752303423488).length + ((uv 524288).length + 524288)) := by
    unfold rootB
    simp only [List.length_append, List.length_replicate]
    rfl
  exact parse_more (by omega) (by omega) (by simp)
theorem bad_bytes {s b : Int} {x : List UInt8} (h : rightR s b x.length = false) : bytesR s b x = ([], 2) := by
  unfold bytesR
  rw [if_neg (by rw [h]; simp)]
end Go.Proofs.Ytemegkapmgcffaa
