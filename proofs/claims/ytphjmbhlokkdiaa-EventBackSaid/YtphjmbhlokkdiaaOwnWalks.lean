import Derived.Test.YtphjmbhlokkdiaaFrameLaw
namespace Go.Proofs.Ytphjmbhlokkdiaa
open Go.RowKit
set_option linter.unusedSimpArgs false
set_option linter.unusedVariables false

/-- a row of the call's own, as a slice -/
def Own (base : Nat) (e : TypeId) (size : Nat) (w : World) (A : Option Addr) (n c : Nat) (cs : List Value) : Prop := w.ownsRow base e size (.slice A n c) n cs
section
variable {base size n c : Nat} {e : TypeId} {w : World} {A : Option Addr} {cs : List Value}
theorem Own.app (h : Own base e size w A n c cs) : App base e size w A n c cs := .inl h
theorem Own.sl (h : Own base e size w A n c cs) : Sl w size A n c cs := ownsRow_sl h
theorem Own.below {w' : World} (h : Own base e size w A n c cs) (hb : Below w.heap.size w w') : Own base e size w' A n c cs := by
  refine World.ownsRow.kept h (row := none) ⟨hb.os, hb.tape, hb.output, hb.size, fun i hi _ => hb.block i hi⟩ ?_
  cases A with
  | none => exact .inl rfl
  | some a => exact .inr (by simp [Value.ownBlock])
theorem Own.alloc (h : Own base e size w A n c cs) (o : Obj) : Own base e size (w.alloc o) A n c cs := h.below (below_alloc1 _ _)
end
theorem Own.block_lt {base n c : Nat} {e : TypeId} {w : World} {a : Addr} {cs : List Value} (h : Own base e 1 w (some a) n c cs) (hn : 0 < n) : a.block < w.heap.size := (Own.app h).block_lt hn

structure OwnTo (base : Nat) (e : TypeId) (size : Nat) (w w' : World) (A A' : Option Addr) (n c : Nat) (cs : List Value) : Prop where
  app : Own base e size w' A' n c cs
  grown : w.grownBy w' (rowOf base A)
  lies : From w A A'
theorem OwnTo.refl {base : Nat} {e : TypeId} {size : Nat} {w : World} {A : Option Addr} {n c : Nat} {cs : List Value} (h : Own base e size w A n c cs) : OwnTo base e size w w A A n c cs :=
  ⟨h, World.grownBy.refl _ _, From.refl _ _⟩
theorem OwnTo.trans {base : Nat} {e : TypeId} {size : Nat} {w w1 w2 : World} {A A1 A2 : Option Addr} {n1 c1 n2 c2 : Nat} {cs1 cs2 : List Value}
    (h : OwnTo base e size w w1 A A1 n1 c1 cs1) (k : OwnTo base e size w1 w2 A1 A2 n2 c2 cs2) : OwnTo base e size w w2 A A2 n2 c2 cs2 :=
  ⟨k.app, grownBy_trans' h.grown k.grown h.lies.row, h.lies.trans k.lies h.grown.size⟩
theorem OwnTo.after {base : Nat} {e : TypeId} {size : Nat} {w w1 w2 : World} {A A2 : Option Addr} {n2 c2 : Nat} {cs2 : List Value}
    (h : Below w.heap.size w w1) (k : OwnTo base e size w1 w2 A A2 n2 c2 cs2) : OwnTo base e size w w2 A A2 n2 c2 cs2 :=
  ⟨k.app, grownBy_trans (below_grownBy h _) k.grown, (From.refl w A).trans k.lies h.size⟩
theorem OwnTo.below {base : Nat} {e : TypeId} {size : Nat} {w w1 : World} {A A1 : Option Addr} {n1 c1 : Nat} {cs1 : List Value}
    (h : OwnTo base e size w w1 A A1 n1 c1 cs1) (hb : base ≤ w.heap.size) : Below base w w1 :=
  (Below.refl _ _).grown h.grown hb (fun _ hk => rowOf_ge hk)

theorem run_ownA {P : Program} (w : World) (base : Nat) (t ty e : TypeId) (z : Value) (size bytes : Nat) (ht : P.underlying t = some (.slice e))
    (hinfo : (P.info? e).map (fun i => (i.zero, i.size, i.bytes)) = some (some z, size, bytes)) (hzs : z.cells.size = size) (hsz : 0 < size)
    (A : Option Addr) (n c : Nat) (xs : List Value) (hown : Own base e size w A n c xs)
    (B : Option Addr) (m c' : Nat) (news : List Value) (hsl : Sl w size B m c' news) (h1 : ∀ u ∈ news, u.oneCell' = true)
    (h63 : n + m ≤ maxLen) (hbytes : (n + m) * bytes ≤ 140737488355328) (hbase : base ≤ w.heap.size) :
    ∃ A' d w', (Builtin.append_ #[t, t] ty #[.slice A n c, .slice B m c']).run P w = .ok (.slice A' (n + m) d) w' ∧
      OwnTo base e size w w' A A' (n + m) d (xs ++ news) := by
  obtain ⟨i, hi, hz, hs, hb⟩ := info_parts hinfo
  have hrow : (Value.slice A n c).ownBlock = rowOf base A := by
    cases A with
    | none => rfl
    | some a => rw [rowOf_some (World.ownsRow.lt hown a.block rfl).1]; rfl
  cases B with
  | none =>
    obtain ⟨rfl, rfl⟩ := hsl.none rfl
    have hn : news = [] := List.eq_nil_of_length_eq_zero (by simpa using hsl.len)
    subst hn
    have hrun := run_append_owned_none (P := P) (w := w) base t ty e i size ht hi _ n xs hown
    exact ⟨A, c, w, hrun, by rw [List.append_nil]; exact OwnTo.refl hown⟩
  | some b =>
    obtain ⟨v', w', hrun, h2, h3, h4, h5⟩ := run_append_own_at (P := P) w base t ty e i z size bytes ht hi hz hs hb hzs hsz (.slice A n c) n xs hown b m c' news hsl.len
      (fun j u hj => by obtain ⟨ad, e, h⟩ := hsl.cells j u hj; cases e; exact h) h1 h63 hbytes hbase
    have hv : ∃ A' d, v' = .slice A' (n + m) d := by
      rcases h2.2 with ⟨rfl, h0⟩ | ⟨g, cap, cur, rfl, _⟩
      · exact ⟨none, 0, by rw [h0]⟩
      · exact ⟨_, _, rfl⟩
    obtain ⟨A', d, rfl⟩ := hv
    refine ⟨A', d, w', hrun, h2, hrow ▸ h3, ?_⟩
    intro a' ha'
    subst ha'
    rcases h5 with h5 | h5
    · cases A with
      | none => simp [Value.ownBlock] at h5
      | some a => exact .inl ⟨a, rfl, by simp [Value.ownBlock] at h5; exact h5.symm⟩
    · exact .inr (by simp [Value.ownBlock] at h5; omega)

theorem wpList_ownA {P : Program} (w : World) {ops : Array Oper} {rest : List Oper} {o : Oper} {a : Act} {Q : Exit → Act → World → Prop} (hgd : o.guard = none) (s x : Operand) (t : TypeId)
    (ho : o.op = .call { callee := .builtin .append, args := #[s, x], argTypes := #[t, t] })
    (base : Nat) (e : TypeId) (z : Value) (size bytes : Nat) (ht : P.underlying t = some (.slice e))
    (hinfo : (P.info? e).map (fun i => (i.zero, i.size, i.bytes)) = some (some z, size, bytes)) (hzs : z.cells.size = size) (hsz : 0 < size)
    (A : Option Addr) (n c : Nat) (xs : List Value) (hs : a.eval s = .slice A n c) (happ : Own base e size w A n c xs)
    (B : Option Addr) (m c' : Nat) (news : List Value) (hx : a.eval x = .slice B m c') (hsl : Sl w size B m c' news) (h1 : ∀ u ∈ news, u.oneCell' = true)
    (h63 : n + m ≤ maxLen) (hbytes : (n + m) * bytes ≤ 140737488355328) (hbase : base ≤ w.heap.size)
    (h : ∀ A' d w', OwnTo base e size w w' A A' (n + m) d (xs ++ news) → wpList P ops Q rest (a.put o.dst (.slice A' (n + m) d)) w') :
    wpList P ops Q (o :: rest) a w := by
  refine wpList_plain hgd fun K hK => ?_
  obtain ⟨A', d, w', hrun, h2⟩ := run_ownA (P := P) w base t o.type e z size bytes ht hinfo hzs hsz A n c xs happ B m c' news hsl h1 h63 hbytes hbase
  unfold Oper.wp
  simp [execOp, ho, resolve, invoke, builtin, hs, hx, hrun, Result.andThen]
  exact hK _ _ (h A' d w' h2)

set_option maxHeartbeats 400000 in
theorem uint_own (base : Nat) (A : Option Addr) (n0 c : Nat) (l : List UInt8) (n : Nat) (w : World) (ha : Own base 5 1 w A n0 c (bytesV l)) (hb : base ≤ w.heap.size)
    (hn : n < 18446744073709551616) (hl : n0 ≤ 140737488351232) :
    Calls Try.prog 56 #[.slice A n0 c, .int .u64 (n : Int)] w fun e w' => ∃ A' n' c', e = .returned (.slice A' n' c') ∧
      OwnTo base 5 1 w w' A A' n' c' (bytesV (l ++ uv n)) := by
  have hor : Go.bits .or .u64 (n : Int) 1 = ((n ||| 1 : Nat) : Int) := bits_or_u64 n 1 hn (by omega)
  have hlt : (n ||| 1 : Nat) ≤ 18446744073709551615 := by rw [or_one]; split <;> omega
  obtain ⟨q, hq⟩ : ∃ q, q = Lib.bitLen (n ||| 1) := ⟨_, rfl⟩
  have hR := uv_rounds n hn
  have hR1 := uv_pos n
  have hR2 := uv_len_ten n hn
  have hb := Lib.bitLenAux_bounds 64 (n ||| 1) (by omega) (by rw [or_one]; split <;> omega)
  have hq1 : 1 ≤ q := by rw [hq]; exact hb.1
  have hq2 : q ≤ 64 := by rw [hq]; exact Lib.bitLen_le _ 64 (by omega) (by omega)
  obtain ⟨R, hR'⟩ : ∃ R, R = (uv n).length - 1 := ⟨_, rfl⟩
  have hRq : ((q : Int) - 1) / 7 = (R : Int) := by rw [← hq] at hR; omega
  have HR := Lib.hid hR'
  have Hq := Lib.hid hq
  clear hR hR1 hR2 hR' hq hb
  go_enter Try.func56, Try.ntmps56
  go_wp2_with (go_at_call 87; refine (Try.bits_Len64 _ _ (by omega) (by omega)).mono ?_; rintro e w' ⟨rfl, hw⟩; have hw := hw.symm; subst hw; simp only [Int.toNat_natCast]; rw [← Hq.out])

  clear hRq hor
  go_loopw [0, 1, 10] (fun v m i wr => ∃ (k m' : Nat) (pre : List UInt8) (A1 : Option Addr) (n1 c1 : Nat), k ≤ R ∧ i = .int .i64 k ∧ m = .int .u64 m' ∧ v = .slice A1 n1 c1 ∧
      pre ++ uv m' = uv n ∧ pre.length = k ∧ m' < 18446744073709551616 ∧ OwnTo base 5 1 w wr A A1 n1 c1 (bytesV (l ++ pre))) (fun _ _ i _ => R - (intOf i).toNat)
  case atStart => exact ⟨0, n, [], A, n0, c, by omega, rfl, rfl, rfl, rfl, rfl, hn, by simpa using OwnTo.refl ha⟩
  case round =>
    obtain ⟨k, m, pre, A1, n1, c1, hk, rfl, rfl, rfl, hpre, hlen, hm, happ⟩ := hrel
    have hn1 : n1 ≤ 140737488351232 + 10 := by
      have h1 := happ.app.sl.blen
      have h2 := ha.sl.blen
      have h3 := uv_len_ten n hn
      rw [List.length_append] at h1
      rw [HR.out] at hk
      omega
    have hsz := happ.grown.size
    have hR10 : R ≤ 10 := by have h3 := uv_len_ten n hn; rw [HR.out]; omega
    have hu : (uv m).length + k = R + 1 := by
      have h1 := congrArg List.length hpre
      rw [List.length_append, hlen] at h1
      have h2 := uv_pos n
      rw [HR.out]; omega
    by_cases hlt : k < R
    · have hbig : 128 ≤ m := by
        apply Classical.byContradiction; intro hh
        have := uv_len_small m (by omega); omega
      obtain ⟨x, hx⟩ : ∃ x, x = UInt8.ofNat (128 + m % 128) := ⟨_, rfl⟩
      have hv := bits_or128_u8 m
      rw [← hx] at hv
      have Hx := Lib.hid hx
      have hlen' := Lib.hid hlen
      have hpre' := Lib.hid hpre
      clear hx hlen hpre hu
      go_wp2_with (at_builtin; refine wpList_ownA _ rfl _ _ 27 rfl base 5 (.int .u8 0) 1 1 Try.underlying27 infoByte rfl (by decide) A1 n1 c1 (bytesV (l ++ pre)) rfl (happ.app.alloc _) (some ⟨wr.heap.size, 0, none⟩) 1 1 [byteV x] rfl (sl_one _ _ _) (bytesV_one [x]) (by unfold maxLen; omega) (by omega) (by simp; omega) ?_; intro A2 d w2 hat)
      go_roundw
      case rel =>
        refine ⟨k + 1, m / 128, pre ++ [x], A2, _, d, by omega, by go_num, by go_num, rfl, ?_, ?_, by omega, ?_⟩
        · rw [← hpre'.out, uv_big m hbig, Hx.out]; simp
        · rw [List.length_append, hlen'.out]; rfl
        · rw [← List.append_assoc, bytesV_append]
          exact happ.trans (OwnTo.after (below_alloc1 _ _) hat)
      case measure => simp [intOf]; omega
    · have hk' : k = R := by omega
      have hsm : m < 128 := (uv_len_one m).1 (by omega)
      obtain ⟨x, hx⟩ : ∃ x, x = UInt8.ofNat m := ⟨_, rfl⟩
      have hv : m = x.toNat := by rw [hx, UInt8.toNat_ofNat']; omega
      have Hx := Lib.hid hx
      clear hx
      subst hv
      have hlen' := Lib.hid hlen
      have hpre' := Lib.hid hpre
      have hkk := Lib.hid hk'
      clear hlen hpre hu hk'
      go_wp2_with (at_builtin; refine wpList_ownA _ rfl _ _ 27 rfl base 5 (.int .u8 0) 1 1 Try.underlying27 infoByte rfl (by decide) A1 n1 c1 (bytesV (l ++ pre)) rfl (happ.app.alloc _) (some ⟨wr.heap.size, 0, none⟩) 1 1 [byteV x] rfl (sl_one _ _ _) (bytesV_one [x]) (by unfold maxLen; omega) (by omega) (by simp; omega) ?_; intro A2 d w2 hat)
      go_ret
      refine ⟨A2, _, d, rfl, ?_⟩
      rw [← hpre'.out, uv_small _ hsm, ← Hx.out, ← List.append_assoc, bytesV_append]
      exact happ.trans (OwnTo.after (below_alloc1 _ _) hat)

theorem uint_ato (base : Nat) (A : Option Addr) (n0 c : Nat) (l : List UInt8) (n : Nat) (N : Int) (w : World) (ha : Own base 5 1 w A n0 c (bytesV l)) (hb : base ≤ w.heap.size)
    (hn : n < 18446744073709551616) (hl : n0 ≤ 140737488351232) (hN : N = (n : Int)) :
    Calls Try.prog 56 #[.slice A n0 c, .int .u64 N] w fun e w' => ∃ A' n' c', e = .returned (.slice A' n' c') ∧
      OwnTo base 5 1 w w' A A' n' c' (bytesV (l ++ uv n)) := by
  subst hN; exact uint_own base A n0 c l n w ha hb hn hl

end Go.Proofs.Ytphjmbhlokkdiaa
