import Derived.Test.YtphjmbhlokkdiaaFrameC
import Derived.Test.YtphjmbhlokkdiaaPureSeen
/- Plain mathematics: frames. -/
namespace Go.Proofs.Ytphjmbhlokkdiaa

theorem frm_len (b : List UInt8) : (frm b).length = (uv b.length).length + b.length + 5 := by
  simp [frm, crc4_len]; omega
theorem fg_frm (pre b rest : List UInt8) (a : Int) (ha : a = (pre.length : Int)) (h0 : 0 < b.length) (h1 : b.length ≤ 1048576) :
    fg (pre ++ (frm b ++ rest)) a = (b, pre.length + (frm b).length, 0) := by
  have hg : gu (pre ++ (frm b ++ rest)) a = (b.length, pre.length + (uv b.length).length, 0) := by
    have := gu_uv pre (b ++ (crc4 (crc b) ++ [165]) ++ rest) b.length a (by omega) ha
    rw [← this]; simp [frm]
  obtain ⟨u, hu⟩ : ∃ u, u = uv b.length := ⟨_, rfl⟩
  have e : pre ++ (frm b ++ rest) = (pre ++ u) ++ (b ++ (crc4 (crc b) ++ (165 :: rest))) := by simp [frm, hu]
  have hl : (pre ++ (frm b ++ rest)).length = pre.length + u.length + b.length + 5 + rest.length := by
    rw [e]; simp [crc4_len]; omega
  unfold fg
  rw [hg, ← hu]
  simp only
  rw [if_neg (by simp), if_neg (by omega), if_neg (by rw [hl]; omega)]
  have hlen2 : (pre ++ u).length = pre.length + u.length := by simp
  have e1 : (pre ++ (frm b ++ rest)).drop (pre.length + u.length + b.length) = crc4 (crc b) ++ (165 :: rest) := by
    rw [e, ← hlen2, ← List.drop_drop, List.drop_left, List.drop_left]
  have e2 : ((pre ++ (frm b ++ rest)).take (pre.length + u.length + b.length)).drop (pre.length + u.length) = b := by
    rw [List.drop_take, e, ← hlen2, List.drop_left, Nat.add_sub_cancel_left, List.take_left]
  have e3 : (pre ++ (frm b ++ rest))[pre.length + u.length + b.length + 4]? = some 165 := by
    rw [← List.getElem?_drop, e1]; rfl
  rw [e1, e2, e3, if_neg (by simp), if_neg (by rw [List.take_left' (crc4_len _)]; simp)]
  rw [frm_len, ← hu]
  simp only [Prod.mk.injEq, and_true, true_and]
  omega
end Go.Proofs.Ytphjmbhlokkdiaa
