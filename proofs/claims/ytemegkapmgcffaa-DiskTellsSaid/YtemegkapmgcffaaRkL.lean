import Derived.Test.YtemegkapmgcffaaMRc
import Derived.Test.YtemegkapmgcffaaMDe
/- Roots: a disk of the caller's own, slices of bytes beside it, and blocks beside it that stay as they are. -/
namespace Go.Proofs.Ytemegkapmgcffaa
open Go.RowKit
set_option linter.unusedSimpArgs false
set_option linter.unusedVariables false

def DskM (W w : World) (p : Nat) (D : Dk) (L : List Rsl) (K : List (Nat × Obj)) : Prop :=
  ∃ F, DkIs w W.heap.size p D F ∧ Below W.heap.size W w ∧ (∀ ρ, ρ ∈ L → Rws F w ρ.A ρ.n ρ.c (bytesV ρ.x)) ∧ ∀ κ, κ ∈ K → w.heap[κ.1]? = some κ.2 ∧ ¬ F κ.1
theorem heap_lt {w : World} {q : Nat} {o : Obj} (h : w.heap[q]? = some o) : q < w.heap.size := (Array.getElem?_eq_some_iff.1 h).1
section
variable {W w w' : World} {p : Nat} {D D' : Dk} {L L' : List Rsl} {K K' : List (Nat × Obj)}
theorem DskM.bel (h : DskM W w p D L K) : Below W.heap.size W w := by obtain ⟨F, h1, h2, h3⟩ := h; exact h2
theorem DskM.sub (h : DskM W w p D L K) (hs : ∀ ρ, ρ ∈ L' → ρ ∈ L) : DskM W w p D L' K := by obtain ⟨F, h1, h2, h3, h4⟩ := h; exact ⟨F, h1, h2, fun ρ hr => h3 ρ (hs ρ hr), h4⟩
theorem DskM.subK (h : DskM W w p D L K) (hs : ∀ κ, κ ∈ K' → κ ∈ K) : DskM W w p D L K' := by obtain ⟨F, h1, h2, h3, h4⟩ := h; exact ⟨F, h1, h2, h3, fun κ hk => h4 κ (hs κ hk)⟩
theorem DskM.nil (h : DskM W w p D L K) : DskM W w p D [] K := h.sub (fun ρ hr => by cases hr)
theorem DskM.tl {ρ : Rsl} (h : DskM W w p D (ρ :: L) K) : DskM W w p D L K := h.sub (fun σ hr => List.mem_cons_of_mem _ hr)
theorem DskM.sl (h : DskM W w p D L K) {ρ : Rsl} (hr : ρ ∈ L) : Sl w 1 ρ.A ρ.n ρ.c (bytesV ρ.x) := by obtain ⟨F, h1, h2, h3, h4⟩ := h; exact (h3 ρ hr).1
theorem DskM.held (h : DskM W w p D L K) {q : Nat} {o : Obj} (hr : (q, o) ∈ K) : w.heap[q]? = some o := by obtain ⟨F, h1, h2, h3, h4⟩ := h; exact (h4 _ hr).1
theorem DskM.lt (h : DskM W w p D L K) {ρ : Rsl} (hr : ρ ∈ L) : bytesV ρ.x ≠ [] → ∀ a, ρ.A = some a → a.block < w.heap.size := by obtain ⟨F, h1, h2, h3, h4⟩ := h; exact fun hne a ha => ((h3 ρ hr).2 hne a ha).1
theorem DskM.good (h : DskM W w p D L K) : Good D := by obtain ⟨F, h1, h2, h3, h4⟩ := h; exact h1.good
theorem DskM.step {F F' : Nat → Prop} (h1 : DkIs w W.heap.size p D F) (h2 : Below W.heap.size W w) (h3 : ∀ ρ, ρ ∈ L → Rws F w ρ.A ρ.n ρ.c (bytesV ρ.x)) (h4 : ∀ κ, κ ∈ K → w.heap[κ.1]? = some κ.2 ∧ ¬ F κ.1)
    (k2 : DkIs w' W.heap.size p D' F') (k3 : Cg F F' w w') : DskM W w' p D' L K :=
  ⟨F', k2, h2.trans (k3.bel (fun q hq => (h1.bound q hq).1) h2.size), fun ρ hr => (h3 ρ hr).step k3, fun κ hk => by
    obtain ⟨g1, g2⟩ := h4 κ hk
    have hlt := heap_lt g1
    refine ⟨(k3.block _ hlt g2).trans g1, fun hf => ?_⟩
    rcases k3.new _ hf with h5 | h5
    · exact g2 h5
    · omega⟩
theorem DskM.below (h : DskM W w p D L K) (hb : Below w.heap.size w w') : DskM W w' p D L K := by
  obtain ⟨F, h1, h2, h3, h4⟩ := h
  exact DskM.step h1 h2 h3 h4 (h1.below hb) (Cg.below hb)
theorem DskM.of (h : Dsk W w p D) : DskM W w p D [] [] := by
  obtain ⟨F, h1, h2⟩ := h
  exact ⟨F, h1, h2, (fun ρ hr => by cases hr), (fun κ hr => by cases hr)⟩
theorem DskM.dsk (h : DskM W w p D L K) : Dsk W w p D := by obtain ⟨F, h1, h2, h3⟩ := h; exact ⟨F, h1, h2⟩
theorem DskM.dskL (h : DskM W w p D L K) : DskL W w p D L := by obtain ⟨F, h1, h2, h3, h4⟩ := h; exact ⟨F, h1, h2, h3⟩
/-- a new block beside the disk -/
theorem DskM.alloc (h : DskM W w p D L K) (o : Obj) : DskM W (w.alloc o) p D L ((w.heap.size, o) :: K) := by
  have hb := below_alloc1 w o
  obtain ⟨F, h1, h2, h3, h4⟩ := h
  obtain ⟨F2, k1, k2, k3, k4⟩ := DskM.step h1 h2 h3 h4 (h1.below hb) (Cg.below hb)
  refine ⟨F, h1.below hb, h2.trans (hb.mono h2.size), fun ρ hr => (h3 ρ hr).below hb, fun κ hk => ?_⟩
  rcases List.mem_cons.1 hk with h5 | h5
  · subst h5
    exact ⟨heap_alloc_new w o, fun hf => by have := (h1.bound _ hf).2; simp only at this; omega⟩
  · have g := h4 κ h5
    exact ⟨(hb.block _ (heap_lt g.1)).trans g.1, g.2⟩
/-- a slice that was there before the disk was -/
theorem DskM.old (h : DskM W w p D L K) {ρ : Rsl} (hs : Sl W 1 ρ.A ρ.n ρ.c (bytesV ρ.x)) : DskM W w p D (ρ :: L) K := by
  have h0 := (h.dskL.old hs)
  obtain ⟨F, h1, h2, h3, h4⟩ := h
  refine ⟨F, h1, h2, fun σ hr => ?_, h4⟩
  rcases List.mem_cons.1 hr with h5 | h5
  · subst h5
    refine ⟨hs.below h2, fun hne a ha => ?_⟩
    obtain ⟨v, t, hv⟩ := List.exists_cons_of_ne_nil hne
    obtain ⟨ad, h6, h7⟩ := hs.cells 0 v (by rw [hv]; rfl)
    rw [ha] at h6
    cases h6
    have h8 := World.block_lt_of_cell? _ _ h7
    rw [add_block] at h8
    exact ⟨Nat.lt_of_lt_of_le h8 h2.size, fun hf => by have := (h1.bound _ hf).1; omega⟩
  · exact h3 σ h5
/-- a slice that is newer than the disk -/
theorem DskM.new (h : DskM W w p D L K) (hb : Below w.heap.size w w') {B : Nat} {t : TypeId} {ρ : Rsl} (hB : w.heap.size ≤ B) (ho : Own B t 1 w' ρ.A ρ.n ρ.c (bytesV ρ.x)) : DskM W w' p D (ρ :: L) K := by
  obtain ⟨F, h1, h2, h3, h4⟩ := h
  refine ⟨F, h1.below hb, h2.trans (hb.mono h2.size), fun σ hr => ?_, fun κ hk => ?_⟩
  · rcases List.mem_cons.1 hr with h5 | h5
    · subst h5
      exact rws_own ho (fun q hq => Nat.lt_of_lt_of_le (h1.bound q hq).2 hB)
    · exact (h3 σ h5).below hb
  · have g := h4 κ hk
    exact ⟨(hb.block _ (heap_lt g.1)).trans g.1, g.2⟩
theorem DskM.op {P : Ending → Prop} {f : FuncId} {args : Array Value} (h : DskM W w p D L K)
    (hc : ∀ F, DkIs w W.heap.size p D F → (∀ ρ, ρ ∈ L → Rws F w ρ.A ρ.n ρ.c (bytesV ρ.x)) → Calls Try.prog f args w fun x w' => P x ∧ ∃ F', DkIs w' W.heap.size p D' F' ∧ Cg F F' w w') :
    Calls Try.prog f args w fun x w' => P x ∧ DskM W w' p D' L K := by
  obtain ⟨F, h1, h2, h3, h4⟩ := h
  exact (hc F h1 h3).mono fun x w' ⟨k1, F', k2, k3⟩ => ⟨k1, DskM.step h1 h2 h3 h4 k2 k3⟩
theorem rread_m {q : Rt} {ok : Bool} {e : Int} (h : DskM W w p D L K) (hr : readRD D = (q, ok, e)) :
    Calls Try.prog 26 #[.pointer (some ⟨p, 0, none⟩)] w fun x w' => ∃ A c, x = .returned (.tuple #[.agg #[.int .i64 q.s, .int .i64 q.b, .slice A q.x.length c], .bool ok, .int .i64 e]) ∧ DskM W w' p D (⟨A, q.x.length, c, q.x⟩ :: L) K := by
  obtain ⟨F, h1, h2, h3, h4⟩ := h
  have hc := rRead_any h1
  rw [hr] at hc
  refine hc.mono fun x w' ⟨A, c, B, F', k1, k2, k3, k4, k5, k6⟩ => ?_
  obtain ⟨F2, m1, m2, m3, m4⟩ := DskM.step h1 h2 h3 h4 k5 k6
  refine ⟨A, c, k1, F', k5, m2, fun ρ hr => ?_, fun κ hk => ?_⟩
  · rcases List.mem_cons.1 hr with h5 | h5
    · subst h5
      exact rws_own k2 k4
    · exact (h3 ρ h5).step k6
  · obtain ⟨g1, g2⟩ := h4 κ hk
    have hlt := heap_lt g1
    refine ⟨(k6.block _ hlt g2).trans g1, fun hf => ?_⟩
    rcases k6.new _ hf with h5 | h5
    · exact g2 h5
    · omega
theorem rwrite_mn {q : Rt} {e : Int} (h : DskM W w p D L K) (s0 b : Int) {ρ : Rsl} (hm : ρ ∈ L) (hn : ρ.n ≤ 100000000) (hr : writeF D b ρ.x = (D', q, e)) :
    Calls Try.prog 27 #[.pointer (some ⟨p, 0, none⟩), .agg #[.int .i64 s0, .int .i64 b, .slice ρ.A ρ.n ρ.c]] w fun x w' => ∃ A c, x = .returned (.tuple #[.agg #[.int .i64 q.s, .int .i64 q.b, .slice A q.x.length c], .int .i64 e]) ∧ DskM W w' p D' (⟨A, q.x.length, c, q.x⟩ :: L) K ∧ ∀ a, A = some a → w.heap.size ≤ a.block := by
  obtain ⟨F, h1, h2, h3, h4⟩ := h
  have hc := rWrite_any h1 s0 b ρ.A ρ.n ρ.c ρ.x (h3 ρ hm) hn
  rw [hr] at hc
  refine hc.mono fun x w' ⟨A, c, F', k1, k2, k5, k6, k7⟩ => ?_
  refine ⟨A, c, k1, ⟨F', k5, h2.trans (k6.bel (fun q hq => (h1.bound q hq).1) h2.size), fun σ hs => ?_, fun κ hk => ?_⟩, k7⟩
  · rcases List.mem_cons.1 hs with h5 | h5
    · subst h5
      exact k2
    · exact (h3 σ h5).step k6
  · obtain ⟨g1, g2⟩ := h4 κ hk
    have hlt := heap_lt g1
    refine ⟨(k6.block _ hlt g2).trans g1, fun hf => ?_⟩
    rcases k6.new _ hf with h5 | h5
    · exact g2 h5
    · omega
theorem rwrite_m {q : Rt} {e : Int} (h : DskM W w p D L K) (s0 b : Int) {ρ : Rsl} (hm : ρ ∈ L) (hn : ρ.n ≤ 100000000) (hr : writeF D b ρ.x = (D', q, e)) :
    Calls Try.prog 27 #[.pointer (some ⟨p, 0, none⟩), .agg #[.int .i64 s0, .int .i64 b, .slice ρ.A ρ.n ρ.c]] w fun x w' => ∃ A c, x = .returned (.tuple #[.agg #[.int .i64 q.s, .int .i64 q.b, .slice A q.x.length c], .int .i64 e]) ∧ DskM W w' p D' (⟨A, q.x.length, c, q.x⟩ :: L) K :=
  (rwrite_mn h s0 b hm hn hr).mono fun x w' ⟨A, c, k1, k2, k3⟩ => ⟨A, c, k1, k2⟩
section
variable {s : ByteArray} {nm : Nm} {r : Int}
theorem remove_m (h : DskM W w p D L K) (hs : s = bstr nm) (hr : removeD D nm = (r, D')) : Calls Try.prog 42 #[.pointer (some ⟨p, 0, none⟩), .string s] w fun x w' => x = .returned (.int .i64 r) ∧ DskM W w' p D' L K := by
  subst hs
  refine h.op fun F h1 h3 => (Remove_any h1 nm).mono fun x w' ⟨k1, F', k2, k3⟩ => ?_
  rw [hr] at k1 k2
  exact ⟨k1, F', k2, k3⟩
theorem cut_m {n : Int} (h : DskM W w p D L K) (hs : s = bstr nm) (hr : cutD D nm n = (r, D')) : Calls Try.prog 43 #[.pointer (some ⟨p, 0, none⟩), .string s, .int .i64 n] w fun x w' => x = .returned (.int .i64 r) ∧ DskM W w' p D' L K := by
  subst hs
  refine h.op fun F h1 h3 => (Cut_any h1 nm n).mono fun x w' ⟨k1, F', k2, k3⟩ => ?_
  rw [hr] at k1 k2
  exact ⟨k1, F', k2, k3⟩
theorem sync_m (h : DskM W w p D L K) (hs : s = bstr nm) (hr : syncD D nm = (r, D')) : Calls Try.prog 34 #[.pointer (some ⟨p, 0, none⟩), .string s] w fun x w' => x = .returned (.int .i64 r) ∧ DskM W w' p D' L K := by
  subst hs
  refine h.op fun F h1 h3 => (Sync_any h1 nm).mono fun x w' ⟨k1, F', k2, k3⟩ => ?_
  rw [hr] at k1 k2
  exact ⟨k1, F', k2, k3⟩
theorem append_m {ρ : Rsl} (h : DskM W w p D L K) (hs : s = bstr nm) (hl : nm.length ≤ maxLen) (hm : ρ ∈ L) (hn : ρ.n ≤ 100000000) (hr : appendD D nm ρ.x = (r, D')) :
    Calls Try.prog 33 #[.pointer (some ⟨p, 0, none⟩), .string s, .slice ρ.A ρ.n ρ.c] w fun x w' => x = .returned (.int .i64 r) ∧ DskM W w' p D' L K := by
  subst hs
  refine h.op fun F h1 h3 => (Append_any h1 nm hl (h3 ρ hm).1 (fun a ha hne => ((h3 ρ hm).2 (fun e => hne (by simpa [bytesV] using e)) a ha).2) hn).mono fun x w' ⟨k1, F', k2, k3⟩ => ?_
  rw [hr] at k1 k2
  exact ⟨k1, F', k2, k3⟩
theorem arm_m {n : Int} (h : DskM W w p D L K) (hn : n ≤ 9223372036854775807) (hr : armD D n = D') : Calls Try.prog 35 #[.pointer (some ⟨p, 0, none⟩), .int .i64 n] w fun x w' => x = .returned (.tuple #[]) ∧ DskM W w' p D' L K := by
  subst hr
  exact h.op fun F h1 h3 => (Arm_any h1 n hn).mono fun x w' ⟨k1, k2, k3⟩ => ⟨k1, F, k2, k3⟩
theorem crash_m {K1 K2 : Option Addr} {n1 c1 n2 c2 : Nat} {ks ts : List Int} (h : DskM W w p D L K) (s1 : Sl W 1 K1 n1 c1 (intsV ks)) (s2 : Sl W 1 K2 n2 c2 (intsV ts))
    (hn1 : n1 ≤ 9223372036854775807) (hn2 : n2 ≤ 9223372036854775807) (hk1 : ∀ x, x ∈ ks → x ≤ 9223372036854775807) (hk2 : ∀ x, x ∈ ts → x ≤ 9223372036854775807) (hr : crashD D ks ts = D') :
    Calls Try.prog 37 #[.pointer (some ⟨p, 0, none⟩), .slice K1 n1 c1, .slice K2 n2 c2] w fun x w' => x = .returned (.tuple #[]) ∧ DskM W w' p D' L K := by
  have hb := h.bel
  have key : ∀ {A : Option Addr} {n c : Nat} {ks : List Int}, Sl W 1 A n c (intsV ks) → ks ≠ [] → ∀ a, A = some a → a.block < W.heap.size := fun {A n c ks} s hne a ha => by
    obtain ⟨v, t, hv⟩ := List.exists_cons_of_ne_nil hne
    obtain ⟨ad, h6, h7⟩ := s.cells 0 (.int .i64 v) (by rw [hv]; rfl)
    rw [ha] at h6
    cases h6
    have h8 := World.block_lt_of_cell? _ _ h7
    rwa [add_block] at h8
  refine h.op fun F h1 h3 => (Crash_any h1 (s1.below hb) (s2.below hb) (fun a ha hne hf => ?_) (fun a ha hne hf => ?_) hn1 hn2 hk1 hk2).mono fun x w' ⟨k1, F', k2, k3⟩ => ?_
  · have := key s1 hne a ha; have := (h1.bound _ hf).1; omega
  · have := key s2 hne a ha; have := (h1.bound _ hf).1; omega
  · rw [hr] at k2
    exact ⟨k1, F', k2, k3⟩
theorem dread_m {bs : List UInt8} (h : DskM W w p D L K) (hs : s = bstr nm) (hr : readD D nm = (bs, r)) : Calls Try.prog 29 #[.pointer (some ⟨p, 0, none⟩), .string s] w fun x w' => ∃ A c, x = .returned (.tuple #[.slice A bs.length c, .int .i64 r]) ∧ DskM W w' p D (⟨A, bs.length, c, bs⟩ :: L) K :=
  (read_dsk h.dsk hs hr).mono fun x w' ⟨A, c, k1, k2, k3, k4⟩ => ⟨A, c, k1, h.new k3 (Nat.le_refl _) k2⟩
theorem used_m {n : Nat} (h : DskM W w p D L K) (hr : usedF D.fs = n) : Calls Try.prog 30 #[.pointer (some ⟨p, 0, none⟩)] w fun x w' => x = .returned (.int .i64 (n : Int)) ∧ DskM W w' p D L K :=
  (used_dsk h.dsk hr).mono fun x w' ⟨k1, k2, k3⟩ => ⟨k1, h.below k2⟩
theorem size_m {n : Nat} (h : DskM W w p D L K) (hs : s = bstr nm) (hr : (lookF D.fs nm).b.length = n) : Calls Try.prog 45 #[.pointer (some ⟨p, 0, none⟩), .string s] w fun x w' => x = .returned (.int .i64 (n : Int)) ∧ DskM W w' p D L K :=
  (size_dsk h.dsk hs hr).mono fun x w' ⟨k1, k2, k3⟩ => ⟨k1, h.below k2⟩
theorem list_m {n : Nat} (h : DskM W w p D L K) (hn : D.fs.length = n) : Calls Try.prog 31 #[.pointer (some ⟨p, 0, none⟩)] w fun x w' => ∃ A c, x = .returned (.slice A n c) ∧ DskM W w' p D L K :=
  (list_dsk h.dsk hn rfl).mono fun x w' ⟨A, c, k1, k2, k3, k4⟩ => ⟨A, c, k1, h.below k3⟩
end
end
end Go.Proofs.Ytemegkapmgcffaa
