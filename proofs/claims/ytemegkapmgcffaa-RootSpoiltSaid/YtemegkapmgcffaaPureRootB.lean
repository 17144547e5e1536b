import Derived.Test.YtemegkapmgcffaaPureRoot
/- Roots: crashes, and files that are spoilt, plain. -/
namespace Go.Proofs.Ytemegkapmgcffaa
open Go.RowKit
set_option linter.unusedSimpArgs false
set_option linter.unusedVariables false

theorem leftF_safe (nm : Nm) (x : List UInt8) (keep tear : Int) : leftF ⟨nm, x, x.length⟩ keep tear = ⟨nm, x, x.length⟩ := by
  unfold leftF
  simp
theorem leftF_len (f : Fl) (keep tear : Int) : (leftF f keep tear).nm = f.nm ∧ (leftF f keep tear).b.length ≤ f.b.length := by
  unfold leftF
  refine ⟨rfl, ?_⟩
  simp only [List.length_append, List.length_take, List.length_replicate]
  omega
def SafeS (o : Slot) : Prop := ∀ v, o = some v → v.2 = v.1.length
theorem safe_file (r : Rt) : SafeS (fileR r) := fun v hv => by cases hv; rfl
theorem safe_none : SafeS none := fun v hv => by cases hv
theorem safe_slot {nm : Nm} {o : Slot} (h : SafeS o) (v : List UInt8 × Nat) (hv : o = some v) (k t : Int) : leftF ⟨nm, v.1, v.2⟩ k t = ⟨nm, v.1, v.2⟩ := by
  rw [h v hv]
  exact leftF_safe nm v.1 k t
theorem crash_S {a b c : Slot} (hb : SafeS b) (hc : SafeS c) (ks ts : List Int) : ∃ a', crashF (mkS a b c) ks ts = mkS a' b c ∧ slen a' ≤ slen a := by
  have e0 : ∀ (v : List UInt8 × Nat) (nm : Nm) (k t : Int), leftF ⟨nm, v.1, v.2⟩ k t = ⟨nm, (leftF ⟨nm, v.1, v.2⟩ k t).b, (leftF ⟨nm, v.1, v.2⟩ k t).safe⟩ := fun _ _ _ _ => rfl
  rcases a with _ | a
  · refine ⟨none, ?_, Nat.le_refl _⟩
    rcases b with _ | b <;> rcases c with _ | c
    · rfl
    · show [leftF ⟨rn1, c.1, c.2⟩ _ _] = _
      rw [safe_slot hc c rfl]; rfl
    · show [leftF ⟨rn0, b.1, b.2⟩ _ _] = _
      rw [safe_slot hb b rfl]; rfl
    · show [leftF ⟨rn0, b.1, b.2⟩ _ _, leftF ⟨rn1, c.1, c.2⟩ _ _] = _
      rw [safe_slot hb b rfl, safe_slot hc c rfl]; rfl
  · refine ⟨some ((leftF ⟨rnw, a.1, a.2⟩ (toldI ks 0) (toldI ts 0)).b, (leftF ⟨rnw, a.1, a.2⟩ (toldI ks 0) (toldI ts 0)).safe), ?_, (leftF_len _ _ _).2⟩
    rcases b with _ | b <;> rcases c with _ | c
    · rfl
    · show [leftF ⟨rnw, a.1, a.2⟩ (toldI ks 0) (toldI ts 0), leftF ⟨rn1, c.1, c.2⟩ _ _] = _
      rw [safe_slot hc c rfl]; rfl
    · show [leftF ⟨rnw, a.1, a.2⟩ (toldI ks 0) (toldI ts 0), leftF ⟨rn0, b.1, b.2⟩ _ _] = _
      rw [safe_slot hb b rfl]; rfl
    · show [leftF ⟨rnw, a.1, a.2⟩ (toldI ks 0) (toldI ts 0), leftF ⟨rn0, b.1, b.2⟩ _ _, leftF ⟨rn1, c.1, c.2⟩ _ _] = _
      rw [safe_slot hb b rfl, safe_slot hc c rfl]; rfl
theorem St.safe {n : Nat} {now ahead : Rt} {b c : Slot} (h : St n now ahead b c) : SafeS b ∧ SafeS c := by
  obtain ⟨h0, h | ⟨rfl, h1, rfl, rfl⟩ | ⟨h2, h3, h4, h5, rfl, rfl⟩⟩ := h
  · obtain ⟨rfl, rfl, rfl, rfl⟩ := h
    exact ⟨safe_none, safe_none⟩
  · exact ⟨safe_none, safe_file _⟩
  · by_cases hn : n % 2 = 0
    · rw [if_pos hn, if_pos hn]; exact ⟨safe_file _, safe_file _⟩
    · rw [if_neg hn, if_neg hn]; exact ⟨safe_file _, safe_file _⟩
theorem slen_file {r : Rt} {m : Nat} (h : r.x.length ≤ m) (hm : m ≤ 1000) : slen (fileR r) ≤ m + 50 := by
  have := bytesR_short r.s r.b r.x (by omega)
  show (bytesR r.s r.b r.x).1.length ≤ m + 50
  omega
theorem St.len {n m : Nat} {now ahead : Rt} {b c : Slot} (h : St n now ahead b c) (h1 : now.x.length ≤ m) (h2 : ahead.x.length ≤ m) (hm : m ≤ 1000) : slen b ≤ m + 50 ∧ slen c ≤ m + 50 := by
  have f1 := slen_file h1 hm
  have f2 := slen_file h2 hm
  obtain ⟨h0, h | ⟨rfl, h1, rfl, rfl⟩ | ⟨h2, h3, h4, h5, rfl, rfl⟩⟩ := h
  · obtain ⟨rfl, rfl, rfl, rfl⟩ := h
    exact ⟨Nat.zero_le _, Nat.zero_le _⟩
  · exact ⟨Nat.zero_le _, f1⟩
  · by_cases hn : n % 2 = 0
    · rw [if_pos hn, if_pos hn]; exact ⟨f1, f2⟩
    · rw [if_neg hn, if_neg hn]; exact ⟨f2, f1⟩
/-- one write upon a disk of roots with room enough and no fuse: right, or told ErrArg -/
theorem St.step {n : Nat} {now ahead : Rt} {b c : Slot} {room : Int} {m : Nat} (h : St n now ahead b c) (h1 : now.x.length ≤ m) (h2 : ahead.x.length ≤ m) (hm : m ≤ 1000) (hr : ((3 * m + 150 : Nat) : Int) ≤ room) (bt : Int) (x : List UInt8) (hx : x.length ≤ m) :
    (rightR ((n : Int) + 1) bt x.length = false ∧ writeF ⟨room, -1, false, mkS none b c⟩ bt x = (⟨room, -1, false, mkS none b c⟩, rt0, 2)) ∨
    (okR ⟨(n : Int) + 1, bt, x⟩ ∧ ∃ b' c', writeF ⟨room, -1, false, mkS none b c⟩ bt x = (⟨room, -1, false, mkS none b' c'⟩, ⟨(n : Int) + 1, bt, x⟩, 0) ∧ St (n + 1) ⟨(n : Int) + 1, bt, x⟩ now b' c' ∧ (if n % 2 = 0 then b' = b else c' = c)) := by
  have hroot := h.root
  have hs := h.1
  have hl := h.len h1 h2 hm
  obtain ⟨bs, e, hb⟩ : ∃ bs e, bytesR ((rootS b c).s + 1) bt x = (bs, e) := ⟨_, _, rfl⟩
  have hb' := hb
  rw [hroot, hs] at hb'
  cases hg : rightR ((n : Int) + 1) bt x.length with
  | false =>
    left
    refine ⟨rfl, write_bad hb (e := e) ?_⟩
    unfold bytesR at hb'
    rw [hg] at hb'
    simp only [Bool.false_eq_true, if_false, Prod.mk.injEq] at hb'
    omega
  | true =>
    right
    have he : e = 0 := by
      unfold bytesR at hb'
      rw [hg] at hb'
      simp only [if_true, Prod.mk.injEq] at hb'
      omega
    subst he
    have hk : okR ⟨(n : Int) + 1, bt, x⟩ := by unfold okR; rw [hb']
    have hbl := bytesR_short ((n : Int) + 1) bt x (by omega)
    rw [hb'] at hbl
    simp only at hbl
    refine ⟨hk, ?_⟩
    obtain ⟨b', c', g1, g2, g3⟩ := h.write hk rfl
    have hbs : (bytesR ((n : Int) + 1) bt x).1 = bs := by rw [hb']
    simp only [hbs] at g1
    rcases write_S (fuse := -1) (a := none) hb (room := room) (by rw [usedF_mkS, show slen none = 0 from rfl]; omega) with ⟨a', k1, k2, k3⟩ | ⟨f', k1, k2, k3⟩
    · omega
    · have := k2 (by omega)
      subst this
      rw [hroot, hs, g1] at k1
      exact ⟨b', c', k1, g2, g3⟩
/-- one write upon a disk of roots, whose fuse may end it -/
theorem St.stepS {n : Nat} {now ahead : Rt} {a b c : Slot} {fuse : Int} (h : St n now ahead b c) (h1 : now.x.length ≤ 150) (h2 : ahead.x.length ≤ 150) (ha : slen a ≤ 250) (bt : Int) (x : List UInt8) (hx : x.length ≤ 150) :
    writeF ⟨1048576, fuse, false, mkS a b c⟩ bt x = (⟨1048576, fuse, false, mkS a b c⟩, rt0, 2) ∨
    (∃ a', slen a' ≤ 250 ∧ writeF ⟨1048576, fuse, false, mkS a b c⟩ bt x = (⟨1048576, -1, true, mkS a' b c⟩, rt0, 15)) ∨
    (∃ f' b' c', writeF ⟨1048576, fuse, false, mkS a b c⟩ bt x = (⟨1048576, f', false, mkS none b' c'⟩, ⟨(n : Int) + 1, bt, x⟩, 0) ∧ St (n + 1) ⟨(n : Int) + 1, bt, x⟩ now b' c') := by
  have hroot := h.root
  have hs := h.1
  have hl := h.len h1 h2 (by decide)
  obtain ⟨bs, e, hb⟩ : ∃ bs e, bytesR ((rootS b c).s + 1) bt x = (bs, e) := ⟨_, _, rfl⟩
  have hb' := hb
  rw [hroot, hs] at hb'
  by_cases he : e = 0
  · subst he
    right
    have hk : okR ⟨(n : Int) + 1, bt, x⟩ := by unfold okR; rw [hb']
    have hbl := bytesR_short ((n : Int) + 1) bt x (by omega)
    rw [hb'] at hbl
    simp only at hbl
    obtain ⟨b', c', g1, g2, g3⟩ := h.write hk rfl
    have hbs : (bytesR ((n : Int) + 1) bt x).1 = bs := by rw [hb']
    simp only [hbs] at g1
    rcases write_S (fuse := fuse) (a := a) hb (room := 1048576) (by rw [usedF_mkS, show slen none = 0 from rfl]; omega) with ⟨a', k1, k2, k3⟩ | ⟨f', k1, k2, k3⟩
    · left
      refine ⟨a', ?_, k1⟩
      rcases k3 with rfl | k3
      · exact ha
      · omega
    · right
      rw [hroot, hs, g1] at k1
      exact ⟨f', b', c', k1, g2⟩
  · left
    exact write_bad hb he
end Go.Proofs.Ytemegkapmgcffaa
