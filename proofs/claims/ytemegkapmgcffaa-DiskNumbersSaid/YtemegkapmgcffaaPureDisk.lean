import Derived.Test.YtemegkapmgcffaaBase
import Derived.Sort.Walk0
/- The disk, plain. -/
namespace Go.Proofs.Ytemegkapmgcffaa
open Go.RowKit
set_option linter.unusedSimpArgs false
set_option linter.unusedVariables false

abbrev Nm := List UInt8
structure Fl where
  nm : Nm
  b : List UInt8
  safe : Nat
structure Dk where
  room : Int
  fuse : Int
  dark : Bool
  fs : List Fl
theorem bl_irrefl (a : Nm) : Op.bytesLess a a = false := by
  induction a with
  | nil => rfl
  | cons x a ih => simp [Op.bytesLess, ih]
theorem bl_trans {a b c : Nm} (h : Op.bytesLess a b = true) (k : Op.bytesLess b c = true) : Op.bytesLess a c = true := by
  rw [Go.Proofs.bytesLess_eq] at h k ⊢
  simp only [decide_eq_true_eq] at h k ⊢
  exact List.lt_trans h k
theorem bl_tri {a b : Nm} (h : Op.bytesLess a b = false) (k : Op.bytesLess b a = false) : a = b := by
  rw [Go.Proofs.bytesLess_eq] at h k
  simp only [decide_eq_false_iff_not] at h k
  exact List.le_antisymm (List.not_lt.1 k) (List.not_lt.1 h)
theorem bl_asymm {a b : Nm} (h : Op.bytesLess a b = true) : Op.bytesLess b a = false := by
  cases k : Op.bytesLess b a with
  | false => rfl
  | true => have := bl_trans h k; rw [bl_irrefl] at this; cases this
def cmpN (a b : Nm) : Int := if Op.bytesLess a b = true then -1 else if Op.bytesLess b a = true then 1 else 0
theorem cmpN_lt {a b : Nm} (h : Op.bytesLess a b = true) : cmpN a b = -1 := by simp [cmpN, h]
theorem cmpN_gt {a b : Nm} (h : Op.bytesLess b a = true) : cmpN a b = 1 := by simp [cmpN, h, bl_asymm h]
theorem cmpN_eq (a : Nm) : cmpN a a = 0 := by simp [cmpN, bl_irrefl]
def SrtF (fs : List Fl) : Prop := ∀ (i j : Nat) (x y : Fl), i < j → fs[i]? = some x → fs[j]? = some y → Op.bytesLess x.nm y.nm = true
/-- a file's place, or where it would stand -/
def posF (fs : List Fl) (nm : Nm) : Nat := fs.findIdx fun f => !Op.bytesLess f.nm nm
def thereF (fs : List Fl) (nm : Nm) : Bool := match fs[posF fs nm]? with | some f => decide (f.nm = nm) | none => false
theorem posF_le (fs : List Fl) (nm : Nm) : posF fs nm ≤ fs.length := List.findIdx_le_length
theorem posF_of {fs : List Fl} {nm : Nm} {k : Nat} (hk : k ≤ fs.length) (h1 : ∀ j x, j < k → fs[j]? = some x → Op.bytesLess x.nm nm = true) (h2 : ∀ x, fs[k]? = some x → Op.bytesLess x.nm nm = false) : posF fs nm = k := by
  unfold posF
  rcases Nat.lt_or_ge k fs.length with h | h
  · have hx : fs[k]? = some fs[k] := List.getElem?_eq_getElem h
    rw [List.findIdx_eq h]
    refine ⟨by have := h2 _ hx; simpa using this, fun j hj => ?_⟩
    have := h1 j fs[j] hj (by simp)
    simp [this]
  · obtain rfl : k = fs.length := by omega
    rw [List.findIdx_eq_length]
    intro x hx
    obtain ⟨j, hj, rfl⟩ := List.getElem_of_mem hx
    have := h1 j fs[j] hj (by simp)
    simp [this]
theorem posF_low {fs : List Fl} {nm : Nm} {j : Nat} {x : Fl} (hj : j < posF fs nm) (hx : fs[j]? = some x) : Op.bytesLess x.nm nm = true := by
  have := List.not_of_lt_findIdx hj
  obtain ⟨h, rfl⟩ := List.getElem?_eq_some_iff.1 hx
  simpa using this
theorem posF_at {fs : List Fl} {nm : Nm} {x : Fl} (hx : fs[posF fs nm]? = some x) : Op.bytesLess x.nm nm = false := by
  obtain ⟨h, rfl⟩ := List.getElem?_eq_some_iff.1 hx
  have := List.findIdx_getElem (w := h)
  unfold posF
  simpa using this
theorem there_true {fs : List Fl} {nm : Nm} (h : thereF fs nm = true) : ∃ f, fs[posF fs nm]? = some f ∧ f.nm = nm := by
  unfold thereF at h
  split at h
  · rename_i f hf
    exact ⟨f, hf, by simpa using h⟩
  · cases h
theorem there_of {fs : List Fl} (hs : SrtF fs) {nm : Nm} {k : Nat} {f : Fl} (hf : fs[k]? = some f) (hn : f.nm = nm) : posF fs nm = k ∧ thereF fs nm = true := by
  have hk := (List.getElem?_eq_some_iff.1 hf).1
  have hp : posF fs nm = k := posF_of (by omega) (fun j x hj hx => by rw [← hn]; exact hs j k x f hj hx hf) (fun x hx => by rw [hf] at hx; cases hx; rw [hn]; exact bl_irrefl _)
  refine ⟨hp, ?_⟩
  unfold thereF
  rw [hp, hf]
  simpa using hn
theorem there_not {fs : List Fl} (hs : SrtF fs) {nm : Nm} (h : thereF fs nm = false) : ∀ f, f ∈ fs → f.nm ≠ nm := by
  intro f hf hn
  obtain ⟨k, hk⟩ := List.mem_iff_getElem?.1 hf
  rw [(there_of hs hk hn).2] at h
  cases h
/-- may a name be? -/
def chF (c : UInt8) : Bool := (decide (97 ≤ c.toNat) && decide (c.toNat ≤ 122)) || (decide (48 ≤ c.toNat) && decide (c.toNat ≤ 57)) || decide (c.toNat = 46) || decide (c.toNat = 45)
def namedF (nm : Nm) : Bool := nm.all chF && (decide (0 < nm.length) && decide (nm.length ≤ 60))
def usedF (fs : List Fl) : Nat := (fs.map fun f => f.b.length).sum
def darkD (D : Dk) : Dk := { D with fuse := -1, dark := true }
def deedD (D : Dk) (fs : List Fl) : Int × Dk := if D.fuse = 0 then (15, darkD D) else (0, { D with fuse := if 0 < D.fuse then D.fuse - 1 else D.fuse, fs := fs })
def insF (fs : List Fl) (i : Nat) (f : Fl) : List Fl := fs.take i ++ f :: fs.drop i
def appF (fs : List Fl) (nm : Nm) (bs : List UInt8) : List Fl :=
  match thereF fs nm, fs[posF fs nm]? with
  | true, some f => fs.set (posF fs nm) ⟨f.nm, f.b ++ bs, f.safe⟩
  | _, _ => insF fs (posF fs nm) ⟨nm, bs, 0⟩
def appendD (D : Dk) (nm : Nm) (bs : List UInt8) : Int × Dk :=
  if D.dark = true then (15, D) else if namedF nm = false then (16, D)
  else if D.room < (usedF D.fs : Int) + bs.length ∨ (thereF D.fs nm = false ∧ D.fs.length = 200) then (5, D)
  else deedD D (appF D.fs nm bs)
def ofD (D : Dk) (nm : Nm) (may : Fl → Int) (act : Nat → Fl → List Fl) : Int × Dk :=
  if D.dark = true then (15, D) else match thereF D.fs nm, D.fs[posF D.fs nm]? with
    | true, some f => if may f ≠ 0 then (may f, D) else deedD D (act (posF D.fs nm) f)
    | _, _ => (16, D)
def syncD (D : Dk) (nm : Nm) : Int × Dk := ofD D nm (fun _ => 0) (fun i f => D.fs.set i ⟨f.nm, f.b, f.b.length⟩)
def removeD (D : Dk) (nm : Nm) : Int × Dk := ofD D nm (fun _ => 0) (fun i f => D.fs.eraseIdx i)
def moveF (fs : List Fl) (i : Nat) (f : Fl) (tn : Nm) : List Fl :=
  if thereF (fs.eraseIdx i) tn = true then (fs.eraseIdx i).set (posF (fs.eraseIdx i) tn) ⟨tn, f.b, f.safe⟩ else insF (fs.eraseIdx i) (posF (fs.eraseIdx i) tn) ⟨tn, f.b, f.safe⟩
def renameD (D : Dk) (nm tn : Nm) : Int × Dk := ofD D nm (fun _ => if namedF tn = true then 0 else 16) (fun i f => moveF D.fs i f tn)
def cutD (D : Dk) (nm : Nm) (n : Int) : Int × Dk := ofD D nm (fun f => if n < 0 ∨ (f.b.length : Int) < n then 2 else 0) (fun i f => D.fs.set i ⟨f.nm, f.b.take n.toNat, n.toNat⟩)
def lookF (fs : List Fl) (nm : Nm) : Fl := match thereF fs nm, fs[posF fs nm]? with | true, some f => f | _, _ => ⟨[], [], 0⟩
def readD (D : Dk) (nm : Nm) : List UInt8 × Int := if D.dark = true then ([], 15) else if thereF D.fs nm = true then ((lookF D.fs nm).b, 0) else ([], 16)
def armD (D : Dk) (n : Int) : Dk := if D.dark = true then D else { D with fuse := max 0 n }
def toldI (l : List Int) (i : Nat) : Int := match l[i]? with | some x => if x < 0 then 0 else x | none => 0
def leftF (f : Fl) (keep tear : Int) : Fl :=
  let e := f.safe + min keep.toNat (f.b.length - f.safe)
  let k := min tear.toNat (min ((64 - e % 64) % 64) (f.b.length - e))
  ⟨f.nm, f.b.take e ++ List.replicate k 0, e + k⟩
def crashF (fs : List Fl) (keeps torn : List Int) : List Fl := fs.mapIdx fun i f => leftF f (toldI keeps i) (toldI torn i)
def crashD (D : Dk) (keeps torn : List Int) : Dk := { D with fuse := -1, dark := false, fs := crashF D.fs keeps torn }
end Go.Proofs.Ytemegkapmgcffaa
