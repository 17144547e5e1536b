import Derived.Test.YtphjmbhlokkdiaaEvC
namespace Go.Proofs.Ytphjmbhlokkdiaa
open Go.RowKit
set_option linter.unusedSimpArgs false
set_option linter.unusedVariables false

def ev1 : Ev := ⟨1, 3, 0, 0, 5, 0, [112]⟩
def ev2 : Ev := ⟨5, 0, 0, 0, -1, 0, []⟩
def ev3 : Ev := ⟨3, 0, 1, 1, 1, 0, []⟩
theorem ev1_ok : ev1.ok := ⟨by decide, by decide, by decide, by decide, by decide, by decide⟩
theorem ev2_ok : ev2.ok := ⟨by decide, by decide, by decide, by decide, by decide, by decide⟩
theorem ev1_B : evB ev1 = [1, 3, 0, 0, 10, 0, 1, 112] := by
  have h0 : uv 0 = [0] := uv_0
  have h3 : uv 3 = [3] := by rw [uv_small 3 (by omega)]; rfl
  have h10 : uv 10 = [10] := by rw [uv_small 10 (by omega)]; rfl
  have h1 : uv 1 = [1] := uv_1
  have hz : zz 5 = 10 := by decide
  simp [evB, ev1, Ev.nums, h0, h3, h10, h1, hz]
theorem ev2_B : evB ev2 = [5, 0, 0, 0, 1, 0, 0] := by
  have h0 : uv 0 = [0] := uv_0
  have h5 : uv 5 = [5] := by rw [uv_small 5 (by omega)]; rfl
  have h1 : uv 1 = [1] := uv_1
  have hz : zz (-1) = 1 := by decide
  simp [evB, ev2, Ev.nums, h0, h5, h1, hz]
theorem ev1_r : rightB ev1 = true := by decide
theorem ev2_r : rightB ev2 = true := by decide
theorem ev3_r : rightB ev3 = false := by decide

set_option maxRecDepth 100000 in
set_option maxHeartbeats 1000000 in
theorem awake11_any (w : World) : Calls Try.prog 15 #[] w fun e w' => e = .returned (.bool true) ∧ Below w.heap.size w w' := by
  go_enter Try.func15, Try.ntmps15
  go_wp2_with fail
  refine (evBytes_any w.heap.size none 0 0 [] ev1 _ (App.nil _ _ _ _) (Nat.le_refl _) (fun ad h => by cases h) (by omega) ev1_ok ev1_r).mono ?_; rintro x w1 ⟨A1, n1, c1, rfl, hto⟩
  have hb1 := hto.below (Nat.le_refl _)
  have hs1 := hto.app.sl
  rw [List.nil_append, ev1_B] at hs1
  clear hto
  go_wp2_with fail
  refine (evBytes_any w1.heap.size none 0 0 [] ev2 _ (App.nil _ _ _ _) (Nat.le_refl _) (fun ad h => by cases h) (by omega) ev2_ok ev2_r).mono ?_; rintro x w2 ⟨A2, n2, c2, rfl, hto⟩
  have hn := hto.below (Nat.le_refl _)
  have hs2 := hto.app.sl
  rw [List.nil_append, ev2_B] at hs2
  have hs1 := hs1.below hn
  have hb2 := hb1.trans (hn.mono hb1.size)
  clear hto hn hb1
  go_wp2_with fail
  refine (sameBytes_lit _ _ _ _ _ _ [1, 3, 0, 0, 10, 0, 1, 112] [1, 3, 0, 0, 10, 0, 1, 112] true _ (hs1.alloc' _) (sl_lit _ [1, 3, 0, 0, 10, 0, 1, 112] 5) (by decide)).mono ?_; rintro x w3 ⟨rfl, hn⟩
  have hn2 : Below w2.heap.size w2 w3 := (below_alloc1 w2 _).trans (hn.mono (by simp)); clear hn
  have hs2 := hs2.below hn2
  have hb3 := hb2.trans (hn2.mono hb2.size)
  clear hs1 hn2 hb2
  go_wp2_with fail
  refine (sameBytes_lit _ _ _ _ _ _ [5, 0, 0, 0, 1, 0, 0] [5, 0, 0, 0, 1, 0, 0] true _ (hs2.alloc' _) (sl_lit _ [5, 0, 0, 0, 1, 0, 0] 5) (by decide)).mono ?_; rintro x w4 ⟨rfl, hn⟩
  have hn2 : Below w3.heap.size w3 w4 := (below_alloc1 w3 _).trans (hn.mono (by simp)); clear hn
  have hb4 := hb3.trans (hn2.mono hb3.size)
  clear hs2 hn2 hb3
  go_wp2_with fail
  refine (right_any ev3 _ (by decide)).mono ?_; rintro x w5 ⟨rfl, hn⟩
  rw [ev3_r]
  have hb5 := hb4.trans (hn.mono hb4.size)
  clear hn hb4
  go_wp2_with fail
  go_ret
  exact ⟨rfl, hb5⟩
end Go.Proofs.Ytphjmbhlokkdiaa
