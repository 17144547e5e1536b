import Derived.Test.YtphjmbhlokkdiaaPureCrcB
import Derived.Test.YtphjmbhlokkdiaaByteWalksE
/- Plain mathematics: a change within 32 bits running is seen by the check. -/
namespace Go.Proofs.Ytphjmbhlokkdiaa
set_option linter.unusedSimpArgs false

theorem crcStep_bit : ∀ i : Fin 31, crcStep (1#32 <<< (i.val + 1)) = 1#32 <<< i.val := by decide +kernel
theorem crcSteps_bit (n : Nat) : ∀ j, j < 32 → crcSteps (n + j) (1#32 <<< j) = crcSteps n 1#32 := by
  intro j
  induction j with
  | zero => intro _; rfl
  | succ j ih =>
    intro hj
    rw [← Nat.add_assoc, crcSteps, crcStep_bit ⟨j, by omega⟩, ih (by omega)]

/-- the low bits of a change -/
def low (c : BitVec 32) : Nat → BitVec 32
  | 0 => 0#32
  | i + 1 => low c i ^^^ (if c.getLsbD i then 1#32 <<< i else 0#32)
theorem low_bit (c : BitVec 32) : ∀ i j, i ≤ 32 → j < 32 → (low c i).getLsbD j = (decide (j < i) && c.getLsbD j) := by
  intro i
  induction i with
  | zero => intro j _ _; simp [low]
  | succ i ih =>
    intro j hi hj
    rw [low, BitVec.getLsbD_xor, ih j (by omega) hj]
    by_cases hij : j = i
    · subst hij
      cases h : c.getLsbD j <;> simp [hj]
    · have h1 : (if c.getLsbD i then 1#32 <<< i else 0#32).getLsbD j = false := by
        split
        · simp [hj]
          intro h
          omega
        · simp
      rw [h1]
      by_cases h2 : j < i
      · simp [h2, show j < i + 1 by omega]
      · simp [h2, show ¬ j < i + 1 by omega]

/-- a bit of a byte, turned -/
def flipB (x : UInt8) (j : Nat) : UInt8 := x ^^^ UInt8.ofNat (2 ^ j)
theorem flip_wide : ∀ x : Fin 256, ∀ j : Fin 8, (flipB (UInt8.ofNat x.val) j.val).toBitVec.setWidth 32 = (UInt8.ofNat x.val).toBitVec.setWidth 32 ^^^ (1#32 <<< j.val) := by decide +kernel
theorem flip_bits : ∀ x : Fin 256, ∀ j : Fin 8, Go.bits .xor .u8 (x.val : Int) ((2 : Int) ^ j.val) = ((flipB (UInt8.ofNat x.val) j.val).toNat : Int) := by decide +kernel
theorem flip_wide_any (x : UInt8) (j : Nat) (hj : j < 8) : (flipB x j).toBitVec.setWidth 32 = x.toBitVec.setWidth 32 ^^^ (1#32 <<< j) := by
  have := flip_wide ⟨x.toNat, x.toNat_lt⟩ ⟨j, hj⟩
  simpa using this
theorem flip_bits_any (x : UInt8) (j : Nat) (hj : j < 8) : Go.bits .xor .u8 (x.toNat : Int) ((2 : Int) ^ j) = ((flipB x j).toNat : Int) := by
  have := flip_bits ⟨x.toNat, x.toNat_lt⟩ ⟨j, hj⟩
  simpa using this
theorem xor_bits_any (x y : UInt8) : Go.bits .xor .u8 (x.toNat : Int) (y.toNat : Int) = ((x ^^^ y).toNat : Int) := by
  have h : Go.bits .xor .u8 (x.toNat : Int) (y.toNat : Int) = IntKind.wrap .u8 (((BitVec.ofInt 8 x.toNat ^^^ BitVec.ofInt 8 y.toNat).toNat : Nat) : Int) := rfl
  rw [h, BitVec.ofInt_natCast, BitVec.ofInt_natCast, ← UInt8.toNat_toBitVec, ← UInt8.toNat_toBitVec, BitVec.ofNat_toNat, BitVec.ofNat_toNat, BitVec.setWidth_eq, BitVec.setWidth_eq, wrap_u8_nat _ (_ : BitVec 8).isLt]
  rfl

theorem crc_flip (r : BitVec 32) (l : List UInt8) (k j : Nat) (x : UInt8) (hk : l[k]? = some x) (hj : j < 8) :
    crcReg r (l.set k (flipB x j)) = crcReg r l ^^^ crcSteps (8 * (l.length - k)) (1#32 <<< j) := by
  have hkl : k < l.length := (List.getElem?_eq_some_iff.1 hk).1
  have hx : l[k] = x := (List.getElem?_eq_some_iff.1 hk).2
  have e1 : l = l.take k ++ x :: l.drop (k + 1) := by rw [← hx, List.getElem_cons_drop, List.take_append_drop]
  have e2 : l.set k (flipB x j) = l.take k ++ flipB x j :: l.drop (k + 1) := by
    rw [List.set_eq_take_append_cons_drop, if_pos hkl]
  have e3 : crcReg r l = crcReg (crcPush (crcReg r (l.take k)) x) (l.drop (k + 1)) := by
    conv => lhs; rw [e1]
    rw [crcReg_append]; rfl
  have e4 : crcReg r (l.set k (flipB x j)) = crcReg (crcPush (crcReg r (l.take k)) (flipB x j)) (l.drop (k + 1)) := by
    rw [e2, crcReg_append]; rfl
  have e5 : crcPush (crcReg r (l.take k)) (flipB x j) = crcPush (crcReg r (l.take k)) x ^^^ crcSteps 8 (1#32 <<< j) := by
    unfold crcPush
    rw [flip_wide_any x j hj, ← BitVec.xor_assoc, crcSteps_xor]
  rw [e4, e3, e5, crcReg_xor, ← crcSteps_add, List.length_drop]
  congr 2
  omega

/-- how far the change has come -/
def Seen (b : List UInt8) (fr : Nat) (c : BitVec 32) (i : Nat) (xs : List UInt8) : Prop :=
  xs.length = b.length ∧ crcReg 4294967295#32 xs = crcReg 4294967295#32 b ^^^ crcSteps (8 * b.length - fr) (low c i) ∧ (low c i = 0#32 → xs = b)
theorem seen_zero (b : List UInt8) (fr : Nat) (c : BitVec 32) : Seen b fr c 0 b := ⟨rfl, by simp [low, crcSteps_zero], fun _ => rfl⟩
theorem seen_unset {b : List UInt8} {fr : Nat} {c : BitVec 32} {i : Nat} {xs : List UInt8} (h : Seen b fr c i xs) (hc : c.getLsbD i = false) : Seen b fr c (i + 1) xs := by
  have e : low c (i + 1) = low c i := by simp [low, hc]
  unfold Seen; rw [e]; exact h
theorem seen_set {b : List UInt8} {fr : Nat} {c : BitVec 32} {i : Nat} {xs : List UInt8} (h : Seen b fr c i xs) (hc : c.getLsbD i = true) (hi : i < 32) (hf : fr + i < 8 * b.length)
    {x : UInt8} (hx : xs[(fr + i) / 8]? = some x) : Seen b fr c (i + 1) (xs.set ((fr + i) / 8) (flipB x ((fr + i) % 8))) := by
  obtain ⟨h1, h2, h3⟩ := h
  refine ⟨by simpa using h1, ?_, ?_⟩
  · rw [crc_flip _ _ _ _ _ hx (Nat.mod_lt _ (by omega)), h2, BitVec.xor_assoc]
    congr 1
    have e : low c (i + 1) = low c i ^^^ (1#32 <<< i) := by simp [low, hc]
    rw [e, crcSteps_xor]
    congr 1
    rw [h1]
    have ea : 8 * (b.length - (fr + i) / 8) = (8 * b.length - (fr + i)) + (fr + i) % 8 := by omega
    have eb : 8 * b.length - fr = (8 * b.length - (fr + i)) + i := by omega
    rw [ea, eb, crcSteps_bit _ _ (by omega), crcSteps_bit _ _ hi]
  · intro h0
    have := low_bit c (i + 1) i (by omega) hi
    rw [h0, hc] at this
    simp at this
theorem seen_end {b : List UInt8} {fr : Nat} {c : BitVec 32} {i : Nat} {xs : List UInt8} (h : Seen b fr c i xs) : crc xs = crc b ↔ xs = b := by
  constructor
  · intro he
    apply h.2.2
    have h2 := h.2.1
    unfold crc at he
    rw [not_inj he] at h2
    have : crcSteps (8 * b.length - fr) (low c i) = 0#32 := by
      have h3 : crcReg 4294967295#32 b ^^^ crcReg 4294967295#32 b = crcReg 4294967295#32 b ^^^ (crcReg 4294967295#32 b ^^^ crcSteps (8 * b.length - fr) (low c i)) := by rw [← h2]
      rw [← BitVec.xor_assoc, BitVec.xor_self, BitVec.zero_xor] at h3
      exact h3.symm
    exact crcSteps_eq_zero _ this
  · intro he; rw [he]

theorem crc4_len (r : BitVec 32) : (crc4 r).length = 4 := rfl
theorem crc4_inj {r q : BitVec 32} (h : crc4 r = crc4 q) : r = q := by
  unfold crc4 at h
  simp only [List.cons.injEq, and_true] at h
  obtain ⟨h1, h2, h3, h4⟩ := h
  have k1 := congrArg UInt8.toNat h1
  have k2 := congrArg UInt8.toNat h2
  have k3 := congrArg UInt8.toNat h3
  have k4 := congrArg UInt8.toNat h4
  simp only [UInt8.toNat_ofNat'] at k1 k2 k3 k4
  apply BitVec.eq_of_toNat_eq
  have := r.isLt
  have := q.isLt
  omega
theorem unsld_put (x : List UInt8) (d : BitVec 32) : unsld (x ++ crc4 d) = if crc x = d then (x, 0) else ([], 12) := by
  unfold unsld
  rw [if_neg (by simp [crc4_len])]
  have e : (x ++ crc4 d).take ((x ++ crc4 d).length - 4) = x := by
    rw [List.length_append, crc4_len, Nat.add_sub_cancel, List.take_left']; rfl
  rw [e]
  by_cases h : crc x = d
  · rw [if_pos (by rw [h]), if_pos h]
  · rw [if_neg (fun h2 => h (crc4_inj (List.append_cancel_left h2))), if_neg h]
theorem unsld_seal (x : List UInt8) : unsld (x ++ crc4 (crc x)) = (x, 0) := by rw [unsld_put, if_pos rfl]

/-- the check of a sealed text, changed byte by byte -/
def cbyte (c i : Nat) : UInt8 := UInt8.ofNat (c / 2 ^ (8 * i))
def Turned (s : List UInt8) (n c i : Nat) (ts : List UInt8) : Prop :=
  ts.length = s.length ∧ (∀ m, m < n + i → n ≤ m → ts[m]? = (s[m]?).map (· ^^^ cbyte c (m - n))) ∧ (∀ m, (m < n ∨ n + i ≤ m) → ts[m]? = s[m]?)
theorem turned_zero (s : List UInt8) (n c : Nat) : Turned s n c 0 s := ⟨rfl, fun m h1 h2 => by omega, fun _ _ => rfl⟩
theorem turned_step {s ts : List UInt8} {n c i : Nat} (h : Turned s n c i ts) {x : UInt8} (hx : ts[n + i]? = some x) : Turned s n c (i + 1) (ts.set (n + i) (x ^^^ cbyte c i)) := by
  obtain ⟨h1, h2, h3⟩ := h
  have hl : n + i < ts.length := (List.getElem?_eq_some_iff.1 hx).1
  refine ⟨by simpa using h1, fun m hm hn => ?_, fun m hm => ?_⟩
  · rw [List.getElem?_set]
    by_cases he : n + i = m
    · subst he
      rw [if_pos rfl, if_pos hl, ← h3 _ (.inr (Nat.le_refl _)), hx, Nat.add_sub_cancel_left]; rfl
    · rw [if_neg he]; exact h2 m (by omega) hn
  · rw [List.getElem?_set, if_neg (by omega)]
    exact h3 m (by omega)
theorem u8_xor_self {x y : UInt8} (h : x ^^^ y = x) : y = 0 := by
  have : x ^^^ (x ^^^ y) = x ^^^ x := by rw [h]
  rw [← UInt8.xor_assoc, UInt8.xor_self, UInt8.zero_xor] at this
  exact this
theorem cbyte_zero {c : Nat} (hc : c < 4294967296) (h : ∀ i, i < 4 → cbyte c i = 0) : c = 0 := by
  have k0 := congrArg UInt8.toNat (h 0 (by omega))
  have k1 := congrArg UInt8.toNat (h 1 (by omega))
  have k2 := congrArg UInt8.toNat (h 2 (by omega))
  have k3 := congrArg UInt8.toNat (h 3 (by omega))
  simp [cbyte, UInt8.toNat_ofNat'] at k0 k1 k2 k3
  omega
theorem turned_end {b ts : List UInt8} {c : Nat} (hc : c < 4294967296) (h : Turned (b ++ crc4 (crc b)) b.length c 4 ts) : (unsld ts).2 = 0 ↔ c = 0 := by
  obtain ⟨h1, h2, h3⟩ := h
  have hlen : ts.length = b.length + 4 := by rw [h1]; simp [crc4_len]
  have htake : ts.take (ts.length - 4) = b := by
    apply List.ext_getElem?
    intro m
    rw [List.getElem?_take]
    by_cases hm : m < b.length
    · rw [if_pos (by omega), h3 m (.inl hm), List.getElem?_append_left hm]
    · rw [if_neg (by omega), List.getElem?_eq_none (by omega)]
  unfold unsld
  rw [if_neg (by omega), htake]
  constructor
  · intro he
    apply cbyte_zero hc
    intro i hi
    have hs : b ++ crc4 (crc b) = ts := by
      apply Classical.byContradiction
      intro hn; rw [if_neg hn] at he; cases he
    have := h2 (b.length + i) (by omega) (by omega)
    rw [← hs] at this
    have hb : (b ++ crc4 (crc b))[b.length + i]? = some ((b ++ crc4 (crc b))[b.length + i]'(by rw [hs]; omega)) := by simp [crc4_len, hi]
    rw [hb] at this
    simp only [Option.map_some, Option.some.injEq, Nat.add_sub_cancel_left] at this
    exact u8_xor_self this.symm
  · intro he
    subst he
    have hs : b ++ crc4 (crc b) = ts := by
      apply List.ext_getElem?
      intro m
      by_cases hm : b.length ≤ m ∧ m < b.length + 4
      · rw [h2 m (by omega) (by omega)]
        have hb : (b ++ crc4 (crc b))[m]? = some ((b ++ crc4 (crc b))[m]'(by simp [crc4_len]; omega)) := by rw [List.getElem?_eq_getElem]
        rw [hb]
        simp [cbyte]
      · exact (h3 m (by omega)).symm
    rw [if_pos hs]
/-- sealed so many times -/
def sealK : Nat → List UInt8 → List UInt8
  | 0, b => b
  | k + 1, b => sealK k b ++ crc4 (crc (sealK k b))
theorem sealK_len (k : Nat) (b : List UInt8) : (sealK k b).length = b.length + 4 * k := by
  induction k with
  | zero => rfl
  | succ k ih => rw [sealK, List.length_append, ih, crc4_len]; omega
theorem unsld_sealK (k : Nat) (b : List UInt8) : unsld (sealK (k + 1) b) = (sealK k b, 0) := unsld_seal _
theorem cbyte_wrap (c i : Nat) : IntKind.u8.wrap ((c : Int) / 2 ^ (8 * i)) = ((cbyte c i).toNat : Int) := by
  have e : (c : Int) / 2 ^ (8 * i) = ((c / 2 ^ (8 * i) : Nat) : Int) := by simp
  rw [e, cbyte, UInt8.toNat_ofNat']
  simp [IntKind.wrap, IntKind.bits, IntKind.signed]
end Go.Proofs.Ytphjmbhlokkdiaa
