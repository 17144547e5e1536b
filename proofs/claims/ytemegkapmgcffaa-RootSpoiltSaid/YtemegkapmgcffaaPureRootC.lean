import Derived.Test.YtemegkapmgcffaaPureRootB
/- Roots: files that are spoilt, plain. -/
namespace Go.Proofs.Ytemegkapmgcffaa
open Go.RowKit
set_option linter.unusedSimpArgs false
set_option linter.unusedVariables false

/-- a slot that holds no root -/
def BadS (o : Slot) : Prop := ∀ v, o = some v → (parseF v.1).2 ≠ 0
theorem candS_bad {o : Slot} (h : BadS o) (acc : Rt) : candS o acc = acc := by
  rcases o with _ | v
  · rfl
  · unfold candS
    simp only
    rw [if_neg]
    exact fun k => h v rfl k.1
theorem bad_none : BadS none := fun v hv => by cases hv
theorem parse_bad {l : List UInt8} (h : (fg l 0).2.2 ≠ 0) : (parseF l).2 ≠ 0 := by
  unfold parseF
  rw [if_neg (fun k => h k.1.1)]
  decide
theorem ok_frame {r : Rt} (h : okR r) : ∃ body, (bytesR r.s r.b r.x).1 = frm body ∧ 0 < body.length ∧ body.length ≤ 1048576 := by
  unfold okR at h
  unfold bytesR at h ⊢
  by_cases hr : rightR r.s r.b r.x.length = true
  · rw [if_pos hr]
    have h' := (rightR_iff _ _ _).1 hr
    have g1 := uv_len_ten r.s.toNat (by omega)
    have g2 := uv_len_ten r.b.toNat (by omega)
    have g3 := uv_len_ten r.x.length (by omega)
    have g4 := uv_pos r.s.toNat
    refine ⟨_, rfl, ?_, ?_⟩ <;> unfold rootB <;> simp only [List.length_append] <;> omega
  · rw [if_neg hr] at h
    simp at h
theorem bad_cut {r : Rt} (h : okR r) (j z m : Nat) (hj : j < (bytesR r.s r.b r.x).1.length) : BadS (some ((bytesR r.s r.b r.x).1.take j ++ List.replicate z 0, m)) := by
  intro v hv
  cases hv
  obtain ⟨body, h1, h2, h3⟩ := ok_frame h
  rw [h1] at hj ⊢
  exact parse_bad (fg_cut body j z h2 h3 hj)
def slotI (i : Nat) (b c : Slot) : Slot := if i % 2 = 0 then b else c
def putB (i : Nat) (o b : Slot) : Slot := if i % 2 = 0 then o else b
def putC (i : Nat) (o c : Slot) : Slot := if i % 2 = 0 then c else o
section
variable {room : Int} {b c : Slot} {v : List UInt8 × Nat}
theorem deed_neg (room : Int) (fs fs' : List Fl) : deedD ⟨room, -1, false, fs⟩ fs' = (0, ⟨room, -1, false, fs'⟩) := rfl
theorem remove_I (i : Nat) (h : slotI i b c = some v) : removeD ⟨room, -1, false, mkS none b c⟩ (rnm i) = (0, ⟨room, -1, false, mkS none (putB i none b) (putC i none c)⟩) := by
  unfold slotI at h
  unfold rnm putB putC
  by_cases hi : i % 2 = 0
  · simp only [if_pos hi] at h ⊢
    subst h
    rcases c with _ | c <;> rfl
  · simp only [if_neg hi] at h ⊢
    subst h
    rcases b with _ | b <;> rfl
theorem cut_I (i : Nat) (h : slotI i b c = some v) (k : Nat) (hk : k ≤ v.1.length) : cutD ⟨room, -1, false, mkS none b c⟩ (rnm i) (k : Int) = (0, ⟨room, -1, false, mkS none (putB i (some (v.1.take k, k)) b) (putC i (some (v.1.take k, k)) c)⟩) := by
  have hc : ¬ ((k : Int) < 0 ∨ (v.1.length : Int) < (k : Int)) := by omega
  have key : ∀ (fs : List Fl), (if (if (k : Int) < 0 ∨ (v.1.length : Int) < (k : Int) then (2 : Int) else 0) ≠ 0 then ((if (k : Int) < 0 ∨ (v.1.length : Int) < (k : Int) then (2 : Int) else 0), (⟨room, -1, false, mkS none b c⟩ : Dk)) else deedD ⟨room, -1, false, mkS none b c⟩ fs) = (0, ⟨room, -1, false, fs⟩) := fun fs => by
    rw [if_neg hc, if_neg (by simp)]
    rfl
  unfold slotI at h
  unfold rnm putB putC
  by_cases hi : i % 2 = 0
  · simp only [if_pos hi] at h ⊢
    subst h
    rcases c with _ | c
    · exact key [⟨rn0, v.1.take k, k⟩]
    · exact key [⟨rn0, v.1.take k, k⟩, ⟨rn1, c.1, c.2⟩]
  · simp only [if_neg hi] at h ⊢
    subst h
    rcases b with _ | b
    · exact key [⟨rn1, v.1.take k, k⟩]
    · exact key [⟨rn0, b.1, b.2⟩, ⟨rn1, v.1.take k, k⟩]
theorem append_I (i : Nat) (h : slotI i b c = some v) (z : List UInt8) (hr : ((slen b + slen c : Nat) : Int) + z.length ≤ room) : appendD ⟨room, -1, false, mkS none b c⟩ (rnm i) z = (0, ⟨room, -1, false, mkS none (putB i (some (v.1 ++ z, v.2)) b) (putC i (some (v.1 ++ z, v.2)) c)⟩) := by
  have hl : (mkS none b c).length ≠ 200 := by rcases b with _ | b <;> rcases c with _ | c <;> simp [mkS, slF]
  have hn : namedF (rnm i) = true := by unfold rnm; split <;> decide
  have hg : ¬ (room < (usedF (mkS none b c) : Int) + z.length ∨ (thereF (mkS none b c) (rnm i) = false ∧ (mkS none b c).length = 200)) := fun hh => hh.elim (by rw [usedF_mkS, show slen none = 0 from rfl]; omega) (fun k => hl k.2)
  unfold appendD
  rw [if_neg (by simp), if_neg (by rw [hn]; simp), if_neg hg]
  clear hg hn hl hr
  unfold slotI at h
  unfold rnm putB putC
  by_cases hi : i % 2 = 0
  · simp only [if_pos hi] at h ⊢
    subst h
    rcases c with _ | c <;> rfl
  · simp only [if_neg hi] at h ⊢
    subst h
    rcases b with _ | b <;> rfl
theorem size_I (i : Nat) (h : slotI i b c = some v) : (lookF (mkS none b c) (rnm i)).b.length = v.1.length := by
  unfold slotI at h
  unfold rnm
  by_cases hi : i % 2 = 0
  · simp only [if_pos hi] at h ⊢
    subst h
    rcases c with _ | c <;> rfl
  · simp only [if_neg hi] at h ⊢
    subst h
    rcases b with _ | b <;> rfl
end
/-- what spoil makes of the disk -/
def Spoilt (b c b' c' : Slot) (i : Nat) (m : Nat) : Prop := ∃ o, BadS o ∧ slen o ≤ m ∧ b' = putB i o b ∧ c' = putC i o c
theorem St.now {n : Nat} {now ahead : Rt} {b c : Slot} (h : St n now ahead b c) (hn : 1 ≤ n) : slotI n b c = fileR now ∧ okR now := by
  obtain ⟨h0, h | ⟨rfl, h1, rfl, rfl⟩ | ⟨h2, h3, h4, h5, rfl, rfl⟩⟩ := h
  · omega
  · exact ⟨rfl, h1⟩
  · refine ⟨?_, h3⟩
    unfold slotI
    by_cases hi : n % 2 = 0
    · rw [if_pos hi, if_pos hi]
    · rw [if_neg hi, if_neg hi]
theorem St.ahead {n : Nat} {now ahead : Rt} {b c : Slot} (h : St n now ahead b c) (hn : 2 ≤ n) (o : Slot) : slotI (n - 1) (putB n o b) (putC n o c) = fileR ahead ∧ okR ahead ∧ ahead.s = (n : Int) - 1 := by
  obtain ⟨h0, h | ⟨rfl, h1, rfl, rfl⟩ | ⟨h2, h3, h4, h5, rfl, rfl⟩⟩ := h
  · omega
  · omega
  · refine ⟨?_, h4, by omega⟩
    unfold slotI putB putC
    by_cases hi : n % 2 = 0
    · have hj : ¬ (n - 1) % 2 = 0 := by omega
      simp [hi, hj]
    · have hj : (n - 1) % 2 = 0 := by omega
      simp [hi, hj]
theorem St.spoilt {n : Nat} {now ahead : Rt} {b c : Slot} (h : St n now ahead b c) (hn : 2 ≤ n) {o : Slot} (ho : BadS o) : rootS (putB n o b) (putC n o c) = ahead := by
  obtain ⟨h0, h | ⟨rfl, h1, rfl, rfl⟩ | ⟨h2, h3, h4, h5, rfl, rfl⟩⟩ := h
  · omega
  · omega
  · have p2 := ok_pos h4
    have i1 : (if rt0.s < ahead.s then ahead else rt0) = ahead := if_pos (by show (0 : Int) < ahead.s; omega)
    unfold rootS putB putC
    by_cases hi : n % 2 = 0
    · simp only [if_pos hi]
      rw [candS_bad ho, candS_file h4, i1]
    · simp only [if_neg hi]
      rw [candS_file h4, i1, candS_bad ho]
theorem St.spoilt2 {n : Nat} {b c : Slot} {o o2 : Slot} (hn : 2 ≤ n) (ho : BadS o) (ho2 : BadS o2) : rootS (putB (n - 1) o2 (putB n o b)) (putC (n - 1) o2 (putC n o c)) = rt0 := by
  unfold rootS putB putC
  by_cases hi : n % 2 = 0
  · have hj : ¬ (n - 1) % 2 = 0 := by omega
    simp only [if_pos hi, if_neg hj]
    rw [candS_bad ho, candS_bad ho2]
  · have hj : (n - 1) % 2 = 0 := by omega
    simp only [if_neg hi, if_pos hj]
    rw [candS_bad ho2, candS_bad ho]
end Go.Proofs.Ytemegkapmgcffaa
