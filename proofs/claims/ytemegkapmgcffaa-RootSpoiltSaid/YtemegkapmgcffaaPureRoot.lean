import Derived.Test.YtemegkapmgcffaaMRc
import Derived.Test.YtemegkapmgcffaaPureTorn
/- Roots: the disk's three names, plain. -/
namespace Go.Proofs.Ytemegkapmgcffaa
open Go.RowKit
set_option linter.unusedSimpArgs false
set_option linter.unusedVariables false

abbrev Slot := Option (List UInt8 × Nat)
def slF (nm : Nm) : Slot → List Fl
  | some v => [⟨nm, v.1, v.2⟩]
  | none => []
/-- the disk's files: root.new, root0, root1 -/
def mkS (a b c : Slot) : List Fl := slF rnw a ++ (slF rn0 b ++ slF rn1 c)
def candS (o : Slot) (acc : Rt) : Rt := match o with
  | some v => if (parseF v.1).2 = 0 ∧ acc.s < (parseF v.1).1.s then (parseF v.1).1 else acc
  | none => acc
def rootS (b c : Slot) : Rt := candS c (candS b rt0)
def sread (o : Slot) : List UInt8 × Int := match o with
  | some v => (v.1, 0)
  | none => ([], 16)
def slen (o : Slot) : Nat := match o with
  | some v => v.1.length
  | none => 0
theorem usedF_mkS (a b c : Slot) : usedF (mkS a b c) = slen a + (slen b + slen c) := by
  rcases a with _ | a <;> rcases b with _ | b <;> rcases c with _ | c <;> simp [mkS, slF, usedF, slen]
section
variable {room fuse : Int} {a b c : Slot}
theorem read_w : readD ⟨room, fuse, false, mkS a b c⟩ rnw = sread a := by
  rcases a with _ | a <;> rcases b with _ | b <;> rcases c with _ | c <;> rfl
theorem read_0 : readD ⟨room, fuse, false, mkS a b c⟩ rn0 = sread b := by
  rcases a with _ | a <;> rcases b with _ | b <;> rcases c with _ | c <;> rfl
theorem read_1 : readD ⟨room, fuse, false, mkS a b c⟩ rn1 = sread c := by
  rcases a with _ | a <;> rcases b with _ | b <;> rcases c with _ | c <;> rfl
theorem root_S : rootD ⟨room, fuse, false, mkS a b c⟩ = rootS b c := by
  show candR _ (rnm 1) (candR _ (rnm 0) rt0) = _
  unfold candR
  rw [show rnm 1 = rn1 from rfl, show rnm 0 = rn0 from rfl, read_0, read_1]
  rcases b with _ | b <;> rcases c with _ | c <;> simp [rootS, candS, sread] <;> congr
theorem readRD_S : readRD ⟨room, fuse, false, mkS a b c⟩ = (rootS b c, decide (0 < (rootS b c).s), 0) := by
  unfold readRD
  rw [if_neg (by simp), root_S]
theorem remove_S {v : List UInt8 × Nat} : removeD ⟨room, fuse, false, mkS (some v) b c⟩ rnw = deedD ⟨room, fuse, false, mkS (some v) b c⟩ (mkS none b c) := by
  rcases b with _ | b <;> rcases c with _ | c <;> rfl
theorem sync_S {v : List UInt8 × Nat} : syncD ⟨room, fuse, false, mkS (some v) b c⟩ rnw = deedD ⟨room, fuse, false, mkS (some v) b c⟩ (mkS (some (v.1, v.1.length)) b c) := by
  rcases b with _ | b <;> rcases c with _ | c <;> rfl
theorem append_S {bs : List UInt8} (h : ¬ room < (usedF (mkS none b c) : Int) + bs.length) : appendD ⟨room, fuse, false, mkS none b c⟩ rnw bs = deedD ⟨room, fuse, false, mkS none b c⟩ (mkS (some (bs, 0)) b c) := by
  have hl : (mkS none b c).length ≠ 200 := by rcases b with _ | b <;> rcases c with _ | c <;> simp [mkS, slF]
  have hn : namedF rnw = true := by decide
  have hg : ¬ (room < (usedF (mkS none b c) : Int) + bs.length ∨ (thereF (mkS none b c) rnw = false ∧ (mkS none b c).length = 200)) := fun hh => hh.elim h (fun k => hl k.2)
  unfold appendD
  rw [if_neg (by simp), if_neg (by rw [hn]; simp), if_neg hg]
  congr 1
  rcases b with _ | b <;> rcases c with _ | c <;> rfl
def putS (i : Nat) (v : List UInt8 × Nat) (b c : Slot) : List Fl := if i % 2 = 0 then mkS none (some v) c else mkS none b (some v)
theorem rename_S {v : List UInt8 × Nat} (i : Nat) : renameD ⟨room, fuse, false, mkS (some v) b c⟩ rnw (rnm i) = deedD ⟨room, fuse, false, mkS (some v) b c⟩ (putS i v b c) := by
  unfold putS rnm
  by_cases hi : i % 2 = 0
  · rw [if_pos hi, if_pos hi]
    rcases b with _ | b <;> rcases c with _ | c <;> rfl
  · rw [if_neg hi, if_neg hi]
    rcases b with _ | b <;> rcases c with _ | c <;> rfl
end
def fuseN (f : Int) : Int := if 0 < f then f - 1 else f
theorem fuseN_neg {f : Int} (h : f < 0) : fuseN f = f := if_neg (by omega)
theorem fuseN_pos {f : Int} (h : 0 ≤ f) : 0 ≤ fuseN f := by unfold fuseN; split <;> omega
theorem deed_S (room fuse : Int) (fs fs' : List Fl) : (deedD ⟨room, fuse, false, fs⟩ fs' = (15, ⟨room, -1, true, fs⟩) ∧ 0 ≤ fuse) ∨ deedD ⟨room, fuse, false, fs⟩ fs' = (0, ⟨room, fuseN fuse, false, fs'⟩) := by
  unfold deedD
  by_cases h : fuse = 0
  · left
    rw [if_pos h]
    exact ⟨rfl, by omega⟩
  · right
    rw [if_neg h]
    rfl
/-- what one write does to a disk of roots -/
def WroteS (room fuse : Int) (a b c : Slot) (s bt : Int) (x bs : List UInt8) (R : Dk × Rt × Int) : Prop :=
  (∃ a', R = (⟨room, -1, true, mkS a' b c⟩, rt0, 15) ∧ 0 ≤ fuse ∧ (a' = a ∨ slen a' ≤ bs.length)) ∨
  (∃ f', R = (⟨room, f', false, putS s.toNat (bs, bs.length) b c⟩, ⟨s, bt, x⟩, 0) ∧ (fuse < 0 → f' = fuse) ∧ (0 ≤ fuse → 0 ≤ f'))
theorem put_S {room fuse : Int} {b c : Slot} {s bt : Int} {x bs : List UInt8} (hr : ((usedF (mkS none b c) : Nat) : Int) + bs.length ≤ room) :
    WroteS room fuse none b c s bt x bs (putD ⟨room, fuse, false, mkS none b c⟩ s bt x bs) := by
  unfold putD
  rw [append_S (by omega)]
  rcases deed_S room fuse (mkS none b c) (mkS (some (bs, 0)) b c) with ⟨h1, h2⟩ | h1
  · rw [h1]
    rw [if_pos (by simp)]
    exact .inl ⟨none, rfl, h2, .inl rfl⟩
  · rw [h1]
    simp only [ne_eq, not_true_eq_false, if_false]
    rw [sync_S]
    rcases deed_S room (fuseN fuse) (mkS (some (bs, 0)) b c) (mkS (some (bs, bs.length)) b c) with ⟨h3, h4⟩ | h3
    · rw [h3]
      rw [if_pos (by simp)]
      refine .inl ⟨some (bs, 0), rfl, ?_, .inr (Nat.le_refl _)⟩
      apply Classical.byContradiction
      intro hn
      rw [fuseN_neg (by omega)] at h4
      exact hn h4
    · rw [h3]
      simp only [ne_eq, not_true_eq_false, if_false]
      rw [rename_S]
      rcases deed_S room (fuseN (fuseN fuse)) (mkS (some (bs, bs.length)) b c) (putS s.toNat (bs, bs.length) b c) with ⟨h5, h6⟩ | h5
      · rw [h5]
        rw [if_pos (by simp)]
        refine .inl ⟨some (bs, bs.length), rfl, ?_, .inr (Nat.le_refl _)⟩
        apply Classical.byContradiction
        intro hn
        rw [fuseN_neg (f := fuse) (by omega), fuseN_neg (f := fuse) (by omega)] at h6
        exact hn h6
      · rw [h5]
        simp only [ne_eq, not_true_eq_false, if_false]
        refine .inr ⟨_, rfl, fun hn => ?_, fun hp => fuseN_pos (fuseN_pos (fuseN_pos hp))⟩
        rw [fuseN_neg (f := fuse) hn, fuseN_neg (f := fuse) hn, fuseN_neg hn]
theorem write_bad {room fuse : Int} {a b c : Slot} {bt e : Int} {x bs : List UInt8} (hb : bytesR ((rootS b c).s + 1) bt x = (bs, e)) (he : e ≠ 0) :
    writeF ⟨room, fuse, false, mkS a b c⟩ bt x = (⟨room, fuse, false, mkS a b c⟩, rt0, 2) := by
  have h2 : e = 2 := by
    unfold bytesR at hb
    split at hb
    · simp only [Prod.mk.injEq] at hb
      exact absurd hb.2.symm he
    · simp only [Prod.mk.injEq] at hb
      exact hb.2.symm
  unfold writeF
  rw [if_neg (by simp), root_S, hb]
  rw [if_pos (by simpa using he), h2]
theorem write_S {room fuse : Int} {a b c : Slot} {bt : Int} {x bs : List UInt8} (hb : bytesR ((rootS b c).s + 1) bt x = (bs, 0)) (hr : ((usedF (mkS none b c) : Nat) : Int) + bs.length ≤ room) :
    WroteS room fuse a b c ((rootS b c).s + 1) bt x bs (writeF ⟨room, fuse, false, mkS a b c⟩ bt x) := by
  unfold writeF
  rw [if_neg (by simp), root_S, hb]
  simp only [ne_eq, not_true_eq_false, if_false]
  rw [read_w]
  rcases a with _ | v
  · rw [if_neg (by simp [sread])]
    exact put_S hr
  · rw [if_pos (by simp [sread]), remove_S]
    rcases deed_S room fuse (mkS (some v) b c) (mkS none b c) with ⟨h1, h2⟩ | h1
    · rw [h1]
      rw [if_pos (by simp)]
      exact .inl ⟨some v, rfl, h2, .inl rfl⟩
    · rw [h1]
      simp only [ne_eq, not_true_eq_false, if_false]
      rcases put_S (fuse := fuseN fuse) (s := (rootS b c).s + 1) (bt := bt) (x := x) hr with ⟨a', h3, h4, h5⟩ | ⟨f', h3, h4, h5⟩
      · rw [h3]
        refine .inl ⟨a', rfl, ?_, .inr ?_⟩
        · apply Classical.byContradiction
          intro hn
          rw [fuseN_neg (by omega)] at h4
          exact hn h4
        · rcases h5 with h5 | h5
          · subst h5; exact Nat.zero_le _
          · exact h5
      · rw [h3]
        refine .inr ⟨f', rfl, fun hn => ?_, fun hp => h5 (fuseN_pos hp)⟩
        rw [h4 (by rw [fuseN_neg hn]; exact hn), fuseN_neg hn]
theorem write_dark {D : Dk} {bt : Int} {x : List UInt8} (h : D.dark = true) : writeF D bt x = (D, rt0, 15) := by
  unfold writeF
  rw [if_pos h]
/-- a root's own file -/
def fileR (r : Rt) : Slot := some ((bytesR r.s r.b r.x).1, (bytesR r.s r.b r.x).1.length)
def okR (r : Rt) : Prop := (bytesR r.s r.b r.x).2 = 0
theorem parse_file {r : Rt} (h : okR r) : parseF (bytesR r.s r.b r.x).1 = (r, 0) := by
  have := bytes_parse (s := r.s) (b := r.b) (x := r.x) (bs := (bytesR r.s r.b r.x).1) (by rw [← show (bytesR r.s r.b r.x).2 = 0 from h])
  exact this
theorem ok_pos {r : Rt} (h : okR r) : 1 ≤ r.s := (bytesR_ok h).1
/-- the root is now, the one ahead of it ahead -/
def St (n : Nat) (now ahead : Rt) (b c : Slot) : Prop :=
  now.s = (n : Int) ∧ ((n = 0 ∧ now = rt0 ∧ b = none ∧ c = none) ∨ (n = 1 ∧ okR now ∧ b = none ∧ c = fileR now) ∨
    (2 ≤ n ∧ okR now ∧ okR ahead ∧ ahead.s = now.s - 1 ∧ b = (if n % 2 = 0 then fileR now else fileR ahead) ∧ c = (if n % 2 = 0 then fileR ahead else fileR now)))
theorem candS_file {r acc : Rt} (h : okR r) : candS (fileR r) acc = if acc.s < r.s then r else acc := by
  unfold candS fileR
  simp only [parse_file h, true_and]
theorem St.root {n : Nat} {now ahead : Rt} {b c : Slot} (h : St n now ahead b c) : rootS b c = now := by
  obtain ⟨h0, h | ⟨rfl, h1, rfl, rfl⟩ | ⟨h2, h3, h4, h5, rfl, rfl⟩⟩ := h
  · obtain ⟨rfl, rfl, rfl, rfl⟩ := h
    rfl
  · unfold rootS
    rw [candS_file h1]
    have := ok_pos h1
    rw [if_pos (by show (0 : Int) < now.s; omega)]
  · unfold rootS
    have p1 := ok_pos h3
    have p2 := ok_pos h4
    by_cases hn : n % 2 = 0
    · have i1 : (if rt0.s < now.s then now else rt0) = now := if_pos (by show (0 : Int) < now.s; omega)
      rw [if_pos hn, if_pos hn, candS_file h3, candS_file h4, i1, if_neg (by omega)]
    · have i1 : (if rt0.s < ahead.s then ahead else rt0) = ahead := if_pos (by show (0 : Int) < ahead.s; omega)
      rw [if_neg hn, if_neg hn, candS_file h4, candS_file h3, i1, if_pos (by omega)]
theorem St.write {n : Nat} {now ahead new : Rt} {b c : Slot} (h : St n now ahead b c) (hk : okR new) (hs : new.s = (n : Int) + 1) :
    ∃ b' c', putS new.s.toNat ((bytesR new.s new.b new.x).1, (bytesR new.s new.b new.x).1.length) b c = mkS none b' c' ∧ St (n + 1) new now b' c' ∧ (if n % 2 = 0 then b' = b else c' = c) := by
  have ht : new.s.toNat = n + 1 := by omega
  unfold putS
  rw [ht]
  obtain ⟨h0, h | ⟨rfl, h1, rfl, rfl⟩ | ⟨h2, h3, h4, h5, rfl, rfl⟩⟩ := h
  · obtain ⟨rfl, rfl, rfl, rfl⟩ := h
    refine ⟨none, fileR new, by simp [fileR], ⟨by omega, .inr (.inl ⟨rfl, hk, rfl, rfl⟩)⟩, by simp⟩
  · refine ⟨fileR new, fileR now, by simp [fileR], ⟨by omega, .inr (.inr ⟨by omega, hk, h1, by omega, by simp, by simp⟩)⟩, by simp⟩
  · by_cases hn : n % 2 = 0
    · have hm : ¬ (n + 1) % 2 = 0 := by omega
      refine ⟨fileR now, fileR new, by simp [fileR, hn, hm], ⟨by omega, .inr (.inr ⟨by omega, hk, h3, by omega, by simp [hm], by simp [hm]⟩)⟩, by simp [hn]⟩
    · have hm : (n + 1) % 2 = 0 := by omega
      refine ⟨fileR new, fileR now, by simp [fileR, hn, hm], ⟨by omega, .inr (.inr ⟨by omega, hk, h3, by omega, by simp [hm], by simp [hm]⟩)⟩, by simp [hn]⟩
theorem bytesR_short (s b : Int) (x : List UInt8) (hx : x.length ≤ 1000) : (bytesR s b x).1.length ≤ x.length + 50 := by
  unfold bytesR
  split
  · rename_i h
    have h' := (rightR_iff _ _ _).1 h
    have g1 := uv_len_ten s.toNat (by omega)
    have g2 := uv_len_ten b.toNat (by omega)
    have g3 := uv_len_ten x.length (by omega)
    have hl : (rootB s.toNat b.toNat x).length ≤ x.length + 30 := by
      unfold rootB
      simp only [List.length_append]
      omega
    have g4 := uv_len_ten (rootB s.toNat b.toNat x).length (by omega)
    simp only [frm_len]
    omega
  · simp
end Go.Proofs.Ytemegkapmgcffaa
