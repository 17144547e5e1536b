import Derived.Test.YtemegkapmgcffaaDkU
import Derived.Test.YtemegkapmgcffaaDkV
import Derived.Test.YtemegkapmgcffaaDkQ
import Derived.Test.YtemegkapmgcffaaDkM
import Derived.Test.YtemegkapmgcffaaDkL
/- The disk: its calls, for a disk that is the caller's own. -/
namespace Go.Proofs.Ytemegkapmgcffaa
open Go.RowKit
set_option linter.unusedSimpArgs false
set_option linter.unusedVariables false

theorem DkIs.bound {w : World} {base p : Nat} {D : Dk} {F : Nat → Prop} (h : DkIs w base p D F) : ∀ q, F q → base ≤ q ∧ q < w.heap.size := by
  obtain ⟨R, c, es, h⟩ := h
  exact h.bound
theorem DkIs.good {w : World} {base p : Nat} {D : Dk} {F : Nat → Prop} (h : DkIs w base p D F) : Good D := by
  obtain ⟨R, c, es, h⟩ := h
  exact h.good
theorem DkIs.plt {w : World} {base p : Nat} {D : Dk} {F : Nat → Prop} (h : DkIs w base p D F) : base ≤ p ∧ p < w.heap.size := by
  obtain ⟨R, c, es, h⟩ := h
  exact h.plt
def Dsk (W w : World) (p : Nat) (D : Dk) : Prop := ∃ F, DkIs w W.heap.size p D F ∧ Below W.heap.size W w
theorem Dsk.bel {W w : World} {p : Nat} {D : Dk} (h : Dsk W w p D) : Below W.heap.size W w := by obtain ⟨F, h1, h2⟩ := h; exact h2
theorem Dsk.good {W w : World} {p : Nat} {D : Dk} (h : Dsk W w p D) : Good D := by obtain ⟨F, h1, h2⟩ := h; exact h1.good
theorem Dsk.below {W w w' : World} {p : Nat} {D : Dk} (h : Dsk W w p D) (hb : Below w.heap.size w w') : Dsk W w' p D := by
  obtain ⟨F, h1, h2⟩ := h
  exact ⟨F, h1.below hb, h2.trans (hb.mono h2.size)⟩
theorem dsk_step {W w w' : World} {p : Nat} {D D' : Dk} {F F' : Nat → Prop} (h : DkIs w W.heap.size p D F) (hb : Below W.heap.size W w) (h' : DkIs w' W.heap.size p D' F') (hc : Cg F F' w w') : Dsk W w' p D' :=
  ⟨F', h', hb.trans (hc.bel (fun q hq => (h.bound q hq).1) hb.size)⟩
section
variable {W w0 w : World} {p : Nat} {D D' : Dk} {s t : ByteArray} {nm tn : Nm} {r : Int}
theorem sync_dsk (h : Dsk W w p D) (hs : s = bstr nm) (hr : syncD D nm = (r, D')) : Calls Try.prog 34 #[.pointer (some ⟨p, 0, none⟩), .string s] w fun x w' => x = .returned (.int .i64 r) ∧ Dsk W w' p D' := by
  obtain ⟨F, h1, h2⟩ := h
  subst hs
  refine (Sync_any h1 nm).mono fun x w' ⟨k1, F', k2, k3⟩ => ?_
  rw [hr] at k1 k2
  exact ⟨k1, dsk_step h1 h2 k2 k3⟩
theorem remove_dsk (h : Dsk W w p D) (hs : s = bstr nm) (hr : removeD D nm = (r, D')) : Calls Try.prog 42 #[.pointer (some ⟨p, 0, none⟩), .string s] w fun x w' => x = .returned (.int .i64 r) ∧ Dsk W w' p D' := by
  obtain ⟨F, h1, h2⟩ := h
  subst hs
  refine (Remove_any h1 nm).mono fun x w' ⟨k1, F', k2, k3⟩ => ?_
  rw [hr] at k1 k2
  exact ⟨k1, dsk_step h1 h2 k2 k3⟩
theorem rename_dsk (h : Dsk W w p D) (hs : s = bstr nm) (ht : t = bstr tn) (hl : tn.length ≤ maxLen) (hr : renameD D nm tn = (r, D')) : Calls Try.prog 36 #[.pointer (some ⟨p, 0, none⟩), .string s, .string t] w fun x w' => x = .returned (.int .i64 r) ∧ Dsk W w' p D' := by
  obtain ⟨F, h1, h2⟩ := h
  subst hs ht
  refine (Rename_any h1 nm tn hl).mono fun x w' ⟨k1, F', k2, k3⟩ => ?_
  rw [hr] at k1 k2
  exact ⟨k1, dsk_step h1 h2 k2 k3⟩
theorem cut_dsk {n : Int} (h : Dsk W w p D) (hs : s = bstr nm) (hr : cutD D nm n = (r, D')) : Calls Try.prog 43 #[.pointer (some ⟨p, 0, none⟩), .string s, .int .i64 n] w fun x w' => x = .returned (.int .i64 r) ∧ Dsk W w' p D' := by
  obtain ⟨F, h1, h2⟩ := h
  subst hs
  refine (Cut_any h1 nm n).mono fun x w' ⟨k1, F', k2, k3⟩ => ?_
  rw [hr] at k1 k2
  exact ⟨k1, dsk_step h1 h2 k2 k3⟩
theorem arm_dsk {n : Int} (h : Dsk W w p D) (hn : n ≤ 9223372036854775807) (hr : armD D n = D') : Calls Try.prog 35 #[.pointer (some ⟨p, 0, none⟩), .int .i64 n] w fun x w' => x = .returned (.tuple #[]) ∧ Dsk W w' p D' := by
  obtain ⟨F, h1, h2⟩ := h
  subst hr
  exact (Arm_any h1 n hn).mono fun x w' ⟨k1, k2, k3⟩ => ⟨k1, dsk_step h1 h2 k2 k3⟩
theorem down_dsk {b : Bool} (h : Dsk W w p D) (hb : D.dark = b) : Calls Try.prog 52 #[.pointer (some ⟨p, 0, none⟩)] w fun x w' => x = .returned (.bool b) ∧ w = w' := by
  obtain ⟨F, h1, h2⟩ := h
  subst hb
  exact Down_any h1
theorem used_dsk {n : Nat} (h : Dsk W w p D) (hr : usedF D.fs = n) : Calls Try.prog 30 #[.pointer (some ⟨p, 0, none⟩)] w fun x w' => x = .returned (.int .i64 (n : Int)) ∧ Below w.heap.size w w' ∧ Dsk W w' p D := by
  have h0 := h
  obtain ⟨F, h1, h2⟩ := h
  subst hr
  exact (Used_any h1).mono fun x w' ⟨k1, k2⟩ => ⟨k1, k2, h0.below k2⟩
theorem size_dsk {n : Nat} (h : Dsk W w p D) (hs : s = bstr nm) (hr : (lookF D.fs nm).b.length = n) : Calls Try.prog 45 #[.pointer (some ⟨p, 0, none⟩), .string s] w fun x w' => x = .returned (.int .i64 (n : Int)) ∧ Below w.heap.size w w' ∧ Dsk W w' p D := by
  have h0 := h
  obtain ⟨F, h1, h2⟩ := h
  subst hr hs
  exact (Size_any h1 nm).mono fun x w' ⟨k1, k2⟩ => ⟨k1, k2, h0.below k2⟩
theorem synced_dsk {n : Nat} (h : Dsk W w p D) (hs : s = bstr nm) (hr : (lookF D.fs nm).safe = n) : Calls Try.prog 48 #[.pointer (some ⟨p, 0, none⟩), .string s] w fun x w' => x = .returned (.int .i64 (n : Int)) ∧ Below w.heap.size w w' ∧ Dsk W w' p D := by
  have h0 := h
  obtain ⟨F, h1, h2⟩ := h
  subst hr hs
  exact (Synced_any h1 nm).mono fun x w' ⟨k1, k2⟩ => ⟨k1, k2, h0.below k2⟩
theorem read_dsk {bs : List UInt8} (h : Dsk W w p D) (hs : s = bstr nm) (hr : readD D nm = (bs, r)) : Calls Try.prog 29 #[.pointer (some ⟨p, 0, none⟩), .string s] w fun x w' => ∃ A c, x = .returned (.tuple #[.slice A bs.length c, .int .i64 r]) ∧ Own w.heap.size 5 1 w' A bs.length c (bytesV bs) ∧ Below w.heap.size w w' ∧ Dsk W w' p D := by
  have h0 := h
  obtain ⟨F, h1, h2⟩ := h
  subst hs
  refine (Read_any h1 nm).mono fun x w' ⟨A, c, k1, k2, k3⟩ => ?_
  rw [hr] at k1 k2
  exact ⟨A, c, k1, k2, k3, h0.below k3⟩
theorem list_dsk {n : Nat} {ns : List Value} (h : Dsk W w p D) (hn : D.fs.length = n) (hr : nmV D.fs = ns) : Calls Try.prog 31 #[.pointer (some ⟨p, 0, none⟩)] w fun x w' => ∃ A c, x = .returned (.slice A n c) ∧ Own w.heap.size 9 1 w' A n c ns ∧ Below w.heap.size w w' ∧ Dsk W w' p D := by
  have h0 := h
  obtain ⟨F, h1, h2⟩ := h
  subst hn hr
  exact (List_any h1).mono fun x w' ⟨A, c, k1, k2, k3⟩ => ⟨A, c, k1, k2, k3, h0.below k3⟩
theorem new_dsk {room : Int} (hb : Below W.heap.size W w) (h : 0 ≤ room ∧ room ≤ 16777216) : Calls Try.prog 28 #[.int .i64 room] w fun x w' => ∃ p, x = .returned (.tuple #[.pointer (some ⟨p, 0, none⟩), .int .i64 0]) ∧ Dsk W w' p (newD room) :=
  (New_ok room w h hb.size).mono fun x w' ⟨p, F, k1, k2, k3, k4⟩ => ⟨p, k1, F, k2, hb.trans (k4.mono hb.size)⟩
/-- a slice that is none of the disk's: it was there before, or is newer -/
def Apt (W w0 : World) (A : Option Addr) : Prop := ∀ a, A = some a → a.block < W.heap.size ∨ w0.heap.size ≤ a.block
theorem Apt.none (W w0 : World) : Apt W w0 none := fun a h => by cases h
theorem Apt.new (W w0 : World) (o : Nat) : Apt W w0 (some ⟨w0.heap.size, o, Option.none⟩) := fun a h => by cases h; exact .inr (Nat.le_refl _)
theorem append_dsk {B : Option Addr} {n c : Nat} {bs : List UInt8} (h : Dsk W w0 p D) (hb : Below w0.heap.size w0 w) (hs : s = bstr nm) (hl : nm.length ≤ maxLen) (sB : Sl w 1 B n c (bytesV bs)) (hB : bs ≠ [] → Apt W w0 B) (hn : n ≤ 100000000) (hr : appendD D nm bs = (r, D')) :
    Calls Try.prog 33 #[.pointer (some ⟨p, 0, none⟩), .string s, .slice B n c] w fun x w' => x = .returned (.int .i64 r) ∧ Dsk W w' p D' := by
  obtain ⟨F, h1, h2⟩ := h
  subst hs
  refine (Append_any (h1.below hb) nm hl sB (fun a ha hne hf => ?_) hn).mono fun x w' ⟨k1, F', k2, k3⟩ => ?_
  · have := h1.bound _ hf
    rcases hB hne a ha with h5 | h5 <;> omega
  · rw [hr] at k1 k2
    exact ⟨k1, dsk_step (h1.below hb) (h2.trans (hb.mono h2.size)) k2 k3⟩
theorem append_lit {vs : Array Value} {fr : Nat × Nat} {n : Nat} {bs : List UInt8} (h : Dsk W w p D) (hs : s = bstr nm) (hl : nm.length ≤ maxLen) (hv : vs = (bytesV bs).toArray) (hn0 : bs.length = n) (hn : n ≤ 100000000) (hr : appendD D nm bs = (r, D')) :
    Calls Try.prog 33 #[.pointer (some ⟨p, 0, none⟩), .string s, .slice (some ⟨w.heap.size, 0, none⟩) n n] (w.alloc (.cells vs 5 fr)) fun x w' => x = .returned (.int .i64 r) ∧ Dsk W w' p D' := by
  subst hv hn0
  exact append_dsk h (below_alloc1 _ _) hs hl (sl_lit_mark w bs 5 fr) (fun _ => Apt.new _ _ _) hn hr
theorem crash_dsk {K1 K2 : Option Addr} {n1 c1 n2 c2 : Nat} {ks ts : List Int} (h : Dsk W w0 p D) (hb : Below w0.heap.size w0 w) (s1 : Sl w 1 K1 n1 c1 (ks.map fun x => .int .i64 x)) (s2 : Sl w 1 K2 n2 c2 (ts.map fun x => .int .i64 x)) (h1 : ks ≠ [] → Apt W w0 K1) (h2 : ts ≠ [] → Apt W w0 K2)
    (hn1 : n1 ≤ 9223372036854775807) (hn2 : n2 ≤ 9223372036854775807) (hk1 : ∀ x, x ∈ ks → x ≤ 9223372036854775807) (hk2 : ∀ x, x ∈ ts → x ≤ 9223372036854775807) (hr : crashD D ks ts = D') :
    Calls Try.prog 37 #[.pointer (some ⟨p, 0, none⟩), .slice K1 n1 c1, .slice K2 n2 c2] w fun x w' => x = .returned (.tuple #[]) ∧ Dsk W w' p D' := by
  obtain ⟨F, i1, i2⟩ := h
  have key : ∀ {A : Option Addr}, Apt W w0 A → ∀ a, A = some a → ¬ F a.block := fun {A} hA a ha hf => by
    have := i1.bound _ hf
    rcases hA a ha with h5 | h5 <;> omega
  refine (Crash_any (i1.below hb) s1 s2 (fun a ha hne => key (h1 hne) a ha) (fun a ha hne => key (h2 hne) a ha) hn1 hn2 hk1 hk2).mono fun x w' ⟨k1, F', k2, k3⟩ => ?_
  rw [hr] at k2
  exact ⟨k1, dsk_step (i1.below hb) (i2.trans (hb.mono i2.size)) k2 k3⟩
theorem sl_nilI (w : World) : Sl w 1 none 0 0 (([] : List Int).map fun x => .int .i64 x) := ⟨fun j u hj => by simp at hj, rfl, Nat.le_refl _, fun _ => ⟨rfl, rfl⟩⟩
theorem sl_litI (w : World) (l : List Int) (e : TypeId) : Sl (w.alloc (.cells (l.map fun x => .int .i64 x).toArray e)) 1 (some ⟨w.heap.size, 0, none⟩) l.length l.length (l.map fun x => .int .i64 x) := by
  refine ⟨fun j u hj => ⟨_, rfl, ?_⟩, by simp, Nat.le_refl _, fun h => by cases h⟩
  rw [add_plain, cell_of_row _ w.heap.size j (l.map fun x => .int .i64 x).toArray e (0, 0) (heap_alloc_new w _)]
  simpa using hj
theorem crash_lit0 {vs : Array Value} {n : Nat} {ks : List Int} (h : Dsk W w p D) (hv : vs = (ks.map fun x => .int .i64 x).toArray) (hn : ks.length = n) (hn1 : n ≤ 1000000) (hk : ∀ x, x ∈ ks → x ≤ 9223372036854775807) (hr : crashD D ks [] = D') :
    Calls Try.prog 37 #[.pointer (some ⟨p, 0, none⟩), .slice (some ⟨w.heap.size, 0, none⟩) n n, .slice none 0 0] (w.alloc (.cells vs 3)) fun x w' => x = .returned (.tuple #[]) ∧ Dsk W w' p D' := by
  subst hv hn
  exact crash_dsk h (below_alloc1 _ _) (sl_litI w ks _) (sl_nilI _) (fun _ => Apt.new _ _ _) (fun _ => Apt.none _ _) (by omega) (by omega) hk (by simp) hr
theorem crash_lit1 {vs : Array Value} {n : Nat} {ts : List Int} (h : Dsk W w p D) (hv : vs = (ts.map fun x => .int .i64 x).toArray) (hn : ts.length = n) (hn1 : n ≤ 1000000) (hk : ∀ x, x ∈ ts → x ≤ 9223372036854775807) (hr : crashD D [] ts = D') :
    Calls Try.prog 37 #[.pointer (some ⟨p, 0, none⟩), .slice none 0 0, .slice (some ⟨w.heap.size, 0, none⟩) n n] (w.alloc (.cells vs 3)) fun x w' => x = .returned (.tuple #[]) ∧ Dsk W w' p D' := by
  subst hv hn
  exact crash_dsk h (below_alloc1 _ _) (sl_nilI _) (sl_litI w ts _) (fun _ => Apt.none _ _) (fun _ => Apt.new _ _ _) (by omega) (by omega) (by simp) hk hr
theorem crash_lit2 {vs us : Array Value} {n m b : Nat} {ks ts : List Int} (h : Dsk W w p D) (hv : vs = (ks.map fun x => .int .i64 x).toArray) (hu : us = (ts.map fun x => .int .i64 x).toArray) (hn : ks.length = n) (hm : ts.length = m) (hb : b = w.heap.size + 1) (hn1 : n ≤ 1000000) (hm1 : m ≤ 1000000) (hk : ∀ x, x ∈ ks → x ≤ 9223372036854775807) (hk2 : ∀ x, x ∈ ts → x ≤ 9223372036854775807) (hr : crashD D ks ts = D') :
    Calls Try.prog 37 #[.pointer (some ⟨p, 0, none⟩), .slice (some ⟨w.heap.size, 0, none⟩) n n, .slice (some ⟨b, 0, none⟩) m m] ((w.alloc (.cells vs 3)).alloc (.cells us 3)) fun x w' => x = .returned (.tuple #[]) ∧ Dsk W w' p D' := by
  subst hv hu hn hm
  have hs : (w.alloc (.cells (ks.map fun x => Value.int .i64 x).toArray 3)).heap.size = w.heap.size + 1 := by simp
  have h2 := sl_litI (w.alloc (.cells (ks.map fun x => Value.int .i64 x).toArray 3)) ts 3
  rw [hs, ← hb] at h2
  exact crash_dsk h ((below_alloc1 _ _).alloc (by simp) _) ((sl_litI w ks _).below (below_alloc1 _ _)) h2 (fun _ => Apt.new _ _ _) (fun _ a ha => by cases ha; exact .inr (by simp only; omega)) (by omega) (by omega) hk hk2 hr
def holdsB (D : Dk) (nm : Nm) (want : List UInt8) (safe : Int) : Bool := decide ((readD D nm).2 = 0) && (decide ((readD D nm).1 = want) && (decide ((lookF D.fs nm).b.length = want.length) && decide (((lookF D.fs nm).safe : Int) = safe)))
set_option maxRecDepth 100000 in
set_option maxHeartbeats 4000000 in
theorem holds_dsk {want : List UInt8} {safe : Int} {b : Bool} (h : Dsk W w p D) (hs : s = bstr nm) (ht : t = bstr want) (hb : holdsB D nm want safe = b) :
    Calls Try.prog 51 #[.pointer (some ⟨p, 0, none⟩), .string s, .string t, .int .i64 safe] w fun x w' => x = .returned (.bool b) ∧ Below w.heap.size w w' ∧ Dsk W w' p D := by
  subst hs ht hb
  obtain ⟨bs, r, hrd⟩ : ∃ bs r, readD D nm = (bs, r) := ⟨_, _, rfl⟩
  have Hb := Lib.hid (show holdsB D nm want safe = (decide (r = 0) && (decide (bs = want) && (decide ((lookF D.fs nm).b.length = want.length) && decide (((lookF D.fs nm).safe : Int) = safe)))) by unfold holdsB; rw [hrd])
  have hw : (bstr want).size = want.length := rfl
  go_enter Try.func51, Try.ntmps51
  go_wp2_with fail
  refine (read_dsk h rfl hrd).mono ?_; rintro x w1 ⟨A, c, rfl, ho, hb1, h1⟩
  have hst := run_str ho.sl
  by_cases hr0 : r = 0
  · subst hr0
    by_cases hbw : bs = want
    · subst hbw
      go_wp2_with fail
      obtain ⟨n1, hn1⟩ : ∃ n1, (lookF D.fs nm).b.length = n1 := ⟨_, rfl⟩
      obtain ⟨n2, hn2⟩ : ∃ n2, (lookF D.fs nm).safe = n2 := ⟨_, rfl⟩
      rw [hn1, hn2] at Hb
      refine (size_dsk h1 rfl hn1).mono ?_; rintro x w2 ⟨rfl, hb2, h2⟩
      have HB2 := Lib.hid (hb1.trans (hb2.mono hb1.size))
      clear hb1 hb2 hrd ho hst hn1
      by_cases h5 : n1 = bs.length
      · subst h5
        go_wp2_with fail
        refine (synced_dsk h2 rfl hn2).mono ?_; rintro x w3 ⟨rfl, hb3, h3⟩
        have HB3 := Lib.hid (HB2.out.trans (hb3.mono HB2.out.size))
        clear hn2 hb3
        by_cases h6 : (n2 : Int) = safe
        · subst h6
          go_wp2_with fail
          go_ret
          exact ⟨by rw [Hb.out]; simp, HB3.out, h3⟩
        · have h7 : ((n2 : Int) == safe) = false := by simpa using h6
          go_wp2_with fail
          go_ret
          exact ⟨by rw [Hb.out]; simp [h6], HB3.out, h3⟩
      · have h7 : (n1 == bs.length) = false := by simpa using h5
        go_wp2_with fail
        go_ret
        exact ⟨by rw [Hb.out]; simp [h5], HB2.out, h2⟩
    · have h7 : (bs == want) = false := by simpa using hbw
      go_wp2_with fail
      go_ret
      exact ⟨by rw [Hb.out]; simp [hbw], hb1, h1⟩
  · have h7 : (r == 0) = false := by simpa using hr0
    go_wp2_with fail
    go_ret
    exact ⟨by rw [Hb.out]; simp [hr0], hb1, h1⟩
end
end Go.Proofs.Ytemegkapmgcffaa
