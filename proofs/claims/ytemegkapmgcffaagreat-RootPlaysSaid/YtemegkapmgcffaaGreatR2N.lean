import Derived.Test.YtemegkapmgcffaaGreatR2K
import Derived.Test.YtemegkapmgcffaaGreatR2L
import Derived.Test.YtemegkapmgcffaaGreatR2M
/- The document's disk, by value: Crash (printed by wip/gen/gr2n.py). -/
namespace Go.Proofs.YtemegkapmgcffaaGreat
open Go.RowKit
set_option linter.unusedSimpArgs false
set_option linter.unusedVariables false

/-- bytes that grow, in memory of the call's own -/
structure Rw1 (B0 : Nat) (w : World) (A : Option Addr) (n c : Nat) (x : List UInt8) : Prop where
  app : App B0 5 1 w A n c (bytesV x)
  lies : ∀ a, A = some a → B0 ≤ a.block ∧ a.block < w.heap.size
theorem Rw1.nil (B0 : Nat) (w : World) : Rw1 B0 w Option.none 0 0 [] := ⟨App.nil _ _ _ _, fun a ha => by cases ha⟩
theorem Rw1.below {B0 : Nat} {w w' : World} {A : Option Addr} {n c : Nat} {x : List UInt8} (h : Rw1 B0 w A n c x) (hb : Below w.heap.size w w') : Rw1 B0 w' A n c x :=
  ⟨h.app.below hb, fun a ha => ⟨(h.lies a ha).1, Nat.lt_of_lt_of_le (h.lies a ha).2 hb.size⟩⟩
theorem Rw1.grow {B0 : Nat} {w w' : World} {A A' : Option Addr} {n c m d : Nat} {x : List UInt8} {y : UInt8} (h : Rw1 B0 w A n c x) (hat : AppTo B0 5 1 w w' A A' m d (bytesV x ++ [byteV y])) (hB : B0 ≤ w.heap.size) : Rw1 B0 w' A' m d (x ++ [y]) :=
  ⟨by have := hat.app; rwa [show bytesV x ++ [byteV y] = bytesV (x ++ [y]) by simp [bytesV]] at this, fun a ha => ⟨by
    rcases hat.lies a ha with ⟨a0, k1, k2⟩ | k1
    · rw [← k2]; exact (h.lies a0 k1).1
    · omega, by
    obtain ⟨ad, h6, h7⟩ := hat.app.sl.cells (bytesV x).length (byteV y) (by simp)
    rw [ha] at h6
    cases h6
    have h8 := World.block_lt_of_cell? _ _ h7
    rwa [add_block] at h8⟩⟩
theorem Rw1.grownB {B0 : Nat} {w w' : World} {A A' : Option Addr} {m d : Nat} {ys : List Value} (hat : AppTo B0 5 1 w w' A A' m d ys) (hB : B0 ≤ w.heap.size) : Below B0 w w' :=
  (Below.refl B0 w).grown hat.grown hB (fun k hk => rowOf_ge hk)
/-- a file behind a crash: what the loop over its bytes has when it stops -/
theorem crash_end {f : Fl} {kp tr k : Nat} (hs : f.safe ≤ f.b.length) (hk : k ≤ f.b.length) (hrun : ∀ j, f.safe + kp ≤ j → j < k → j % 64 ≠ 0) (htr : k - (f.safe + kp) ≤ tr) (hst : k = f.b.length ∨ (f.safe + kp ≤ k ∧ (tr = k - (f.safe + kp) ∨ k % 64 = 0))) : leftF f (kp : Int) (tr : Int) = ⟨f.nm, preF f (kp : Int) (tr : Int) k, k⟩ := by
  unfold leftF preF
  simp only [Int.toNat_natCast]
  have hr := hrun (f.safe + kp + (64 - (f.safe + kp) % 64) % 64) (by omega)
  have e1 : f.safe + min kp (f.b.length - f.safe) = min k (f.safe + kp) := by
    rcases hst with h | ⟨h, h1 | h1⟩ <;> omega
  rw [e1]
  have e2 : min tr (min ((64 - min k (f.safe + kp) % 64) % 64) (f.b.length - min k (f.safe + kp))) = k - (f.safe + kp) := by
    by_cases hx : k ≤ f.safe + kp
    · have : min k (f.safe + kp) = k := by omega
      rw [this]
      rcases hst with h | ⟨h, h1 | h1⟩ <;> omega
    · have : min k (f.safe + kp) = f.safe + kp := by omega
      rw [this]
      have hr2 : k ≤ f.safe + kp + (64 - (f.safe + kp) % 64) % 64 := by
        rcases Nat.lt_or_ge (f.safe + kp + (64 - (f.safe + kp) % 64) % 64) k with h | h
        · exact absurd (by omega) (hr h)
        · exact h
      rcases hst with h | ⟨h, h1 | h1⟩ <;> omega
  rw [e2]
  congr 1
  omega
theorem preF_len {f : Fl} {kp tr k : Nat} (hk : k ≤ f.b.length) : (preF f (kp : Int) (tr : Int) k).length = k := by
  unfold preF
  simp only [Int.toNat_natCast, List.length_append, List.length_take, List.length_replicate]
  omega
theorem preF_zero (f : Fl) (kp tr : Int) : preF f kp tr 0 = [] := by simp [preF]
theorem crash_take {fs : List Fl} {ks ts : List Int} {k : Nat} {f : Fl} (hf : fs[k]? = some f) : (crashF fs ks ts).take (k + 1) = (crashF fs ks ts).take k ++ [leftF f (toldI ks k) (toldI ts k)] := by
  rw [List.take_add_one]
  congr 1
  unfold crashF
  rw [List.getElem?_mapIdx, hf]
  rfl
theorem toldI_nat (l : List Int) (i : Nat) (hr : ∀ x, x ∈ l → x ≤ 9223372036854775807) : ∃ k : Nat, toldI l i = (k : Int) ∧ (k : Int) ≤ 9223372036854775807 := by
  unfold toldI
  cases h : l[i]? with
  | none => exact ⟨0, rfl, by omega⟩
  | some x =>
    have := hr x (List.mem_of_getElem? h)
    simp only
    split
    · exact ⟨0, rfl, by omega⟩
    · exact ⟨x.toNat, by omega, by omega⟩
/-- the rows of a crash so far: the new files, their bytes, all beside each other -/
structure CrR (B0 : Nat) (w : World) (LA : Option Addr) (k lc : Nat) (ls : List FE) : Prop where
  row : Rw3 B0 w LA k lc ls
  ok : ∀ e, e ∈ ls → Sl w 1 e.A e.f.b.length e.c (bytesV e.f.b) ∧ ∀ a, e.A = some a → a.block < w.heap.size ∧ B0 ≤ a.block ∧ ∀ b, LA = some b → b.block ≠ a.block
theorem CrR.below {B0 : Nat} {w w' : World} {LA : Option Addr} {k lc : Nat} {ls : List FE} (h : CrR B0 w LA k lc ls) (hb : Below w.heap.size w w') : CrR B0 w' LA k lc ls :=
  ⟨h.row.below hb, fun e he => ⟨(h.ok e he).1.below hb, fun a ha => ⟨Nat.lt_of_lt_of_le ((h.ok e he).2 a ha).1 hb.size, ((h.ok e he).2 a ha).2⟩⟩⟩
theorem CrR.grow {B0 : Nat} {w0 w w' : World} {LA LA' : Option Addr} {k lc m lc' : Nat} {ls : List FE} {e : FE} (h0 : CrR B0 w0 LA k lc ls) (h : CrR B0 w LA k lc ls) (hb : Below w0.heap.size w0 w) (hB : B0 ≤ w0.heap.size) (hat : AppTo B0 82 3 w w' LA LA' m lc' (flatFE (ls ++ [e]))) (hr : Rw1 w0.heap.size w e.A e.f.b.length e.c e.f.b) : CrR B0 w' LA' m lc' (ls ++ [e]) := by
  have hsz := hb.size
  have key : ∀ (A : Option Addr), (∀ a, A = some a → a.block < w.heap.size ∧ ∀ b, LA = some b → b.block ≠ a.block) → ∀ a, A = some a → w'.heap[a.block]? = w.heap[a.block]? := fun A hA a ha => by
    obtain ⟨h1, h2⟩ := hA a ha
    refine hat.grown.block _ h1 (fun e => ?_)
    unfold rowOf at e
    cases LA with
    | none => simp at e
    | some b =>
      simp at e
      exact h2 b rfl (by omega)
  have key2 : ∀ (A : Option Addr), (∀ a, A = some a → a.block < w.heap.size ∧ ∀ b, LA = some b → b.block ≠ a.block) → ∀ a, A = some a → ∀ b, LA' = some b → b.block ≠ a.block := fun A hA a ha b hb2 => by
    obtain ⟨h1, h2⟩ := hA a ha
    rcases hat.lies b hb2 with ⟨a0, k1, k2⟩ | k1
    · rw [← k2]; exact h2 a0 k1
    · omega
  have hnew : ∀ a, e.A = some a → a.block < w.heap.size ∧ ∀ b, LA = some b → b.block ≠ a.block := fun a ha => by
    have h1 := hr.lies a ha
    exact ⟨h1.2, fun b hb2 => by have := (h0.row.lies b hb2).2; omega⟩
  refine ⟨h.row.grow hat (by simp) (by omega), fun d hd => ?_⟩
  rcases List.mem_append.1 hd with h5 | h5
  · obtain ⟨h6, h7⟩ := h.ok d h5
    have hA : ∀ a, d.A = some a → a.block < w.heap.size ∧ ∀ b, LA = some b → b.block ≠ a.block := fun a ha => ⟨(h7 a ha).1, (h7 a ha).2.2⟩
    exact ⟨sl_same h6 (key d.A hA), fun a ha => ⟨Nat.lt_of_lt_of_le (h7 a ha).1 hat.grown.size, (h7 a ha).2.1, key2 d.A hA a ha⟩⟩
  · rw [List.mem_singleton] at h5
    subst h5
    exact ⟨sl_same hr.app.sl (key d.A hnew), fun a ha => ⟨Nat.lt_of_lt_of_le (hr.lies a ha).2 hat.grown.size, by have := (hr.lies a ha).1; omega, key2 d.A hnew a ha⟩⟩
section
variable {w : World} {room fuse : Int} {dark : Bool} {A : Option Addr} {n c : Nat} {es : List FE}
set_option maxRecDepth 100000 in
set_option maxHeartbeats 16000000 in
theorem r2Crash_any {G : Nat → Prop} (hG : ∀ q, w.heap.size ≤ q → G q) (hs : R2 G w A n c es) (hn : n ≤ 1000) (hfl : ∀ e, e ∈ es → e.f.safe ≤ e.f.b.length ∧ e.f.b.length ≤ 16777216) (KA TA : Option Addr) (kn kc tn tc : Nat) (ks ts : List Int) (hks : Sl w 1 KA kn kc (intsV ks)) (hts : Sl w 1 TA tn tc (intsV ts)) (hkr : ∀ x, x ∈ ks → x ≤ 9223372036854775807) (htr : ∀ x, x ∈ ts → x ≤ 9223372036854775807) :
    Calls Tryz.prog 15 #[.agg #[.int .i64 room, .slice A n c, .int .i64 fuse, .bool dark], .slice KA kn kc, .slice TA tn tc] w fun x w' => ∃ A' c' es', x = .returned (.agg #[.int .i64 room, .slice A' n c', .int .i64 (-1), .bool false]) ∧ R2 G w' A' n c' es' ∧ es'.map FE.f = crashF (es.map FE.f) ks ts ∧ Below w.heap.size w w' := by
  have hb1 := below_alloc1 w (.cells #[.int .i64 room, .slice A n c, .int .i64 fuse, .bool dark] 30)
  have k0 := box_cellsR w [.int .i64 room, .slice A n c, .int .i64 fuse, .bool dark] 30 0 _ rfl
  have k1 := box_cellsR w [.int .i64 room, .slice A n c, .int .i64 fuse, .bool dark] 30 1 _ rfl
  have k2 := box_cellsR w [.int .i64 room, .slice A n c, .int .i64 fuse, .bool dark] 30 2 _ rfl
  have k3 := box_cellsR w [.int .i64 room, .slice A n c, .int .i64 fuse, .bool dark] 30 3 _ rfl
  have ob := new_own w [.int .i64 room, .slice A n c, .int .i64 fuse, .bool dark] 30 4 rfl (by unfold maxLen; omega)
  obtain ⟨w1, hw1⟩ : ∃ w1, w1 = w.alloc (.cells #[.int .i64 room, .slice A n c, .int .i64 fuse, .bool dark] 30) := ⟨_, rfl⟩
  have hT1 : (w.alloc (.cells [.int .i64 room, .slice A n c, .int .i64 fuse, .bool dark].toArray 30)) = w1 := hw1.symm
  rw [hT1] at k0 k1 k2 k3 ob
  rw [← hw1] at hb1
  have hz1 : w1.heap.size = w.heap.size + 1 := by rw [hw1]; simp
  have hb2 := below_alloc1 w1 (.cells #[.int .i64 0, .slice none 0 0, .int .i64 0, .bool false] 30)
  have orr := new_own w1 [.int .i64 0, .slice none 0 0, .int .i64 0, .bool false] 30 4 rfl (by unfold maxLen; omega)
  obtain ⟨w2, hw2⟩ : ∃ w2, w2 = w1.alloc (.cells #[.int .i64 0, .slice none 0 0, .int .i64 0, .bool false] 30) := ⟨_, rfl⟩
  have hT2 : (w1.alloc (.cells [.int .i64 0, .slice none 0 0, .int .i64 0, .bool false].toArray 30)) = w2 := hw2.symm
  rw [hT2, hz1] at orr
  rw [← hw2] at hb2
  have eW : (w.alloc (.cells #[.int .i64 room, .slice A n c, .int .i64 fuse, .bool dark] 30)).alloc (.cells #[.int .i64 0, .slice none 0 0, .int .i64 0, .bool false] 30) = w2 := by rw [hw2, hw1]
  have k0 := cellB hb2 k0
  have k1 := cellB hb2 k1
  have k2 := cellB hb2 k2
  have k3 := cellB hb2 k3
  have OB := Lib.hid (Own.below ob hb2)
  have OR := Lib.hid (Own.lower orr (show w.heap.size ≤ w.heap.size + 1 by omega))
  have HB := Lib.hid (hb1.trans (hb2.mono hb1.size))
  clear hb1 hb2 hw1 hw2 hT1 hT2 hz1 ob orr
  have hln := slFE_len hs.sl
  have HS := Lib.hid (hs.below HB.out)
  have HG := Lib.hid hG
  have K0 := Lib.hid k0
  have K1 := Lib.hid k1
  have HKS := Lib.hid (hks.below HB.out)
  have HTS := Lib.hid (hts.below HB.out)
  have HKR := Lib.hid hkr
  have HTR := Lib.hid htr
  have HFL := Lib.hid hfl
  have HCL := Lib.hid (show (crashF (es.map FE.f) ks ts).length = n by unfold crashF; rw [List.length_mapIdx, List.length_map, hln])
  clear hs hG k0 k1 k2 k3 hks hts hkr htr hfl
  go_enter Tryz.func15, Tryz.ntmps15
  go_upto_region 1 with fail
  clear eW
  go_wp2_with fail
  go_loopw [7, 8] (fun s7 s8 wx => ∃ (k : Nat) (LA : Option Addr) (lc : Nat) (ls : List FE), k ≤ n ∧ s7 = .slice LA k lc ∧ s8 = .int .i64 (k : Int) ∧ ls.length = k ∧ Hid (CrR w2.heap.size wx LA k lc ls) ∧ Hid (ls.map FE.f = (crashF (es.map FE.f) ks ts).take k) ∧ Hid (Below w2.heap.size w2 wx)) (fun _ iv _ => n - (intOf iv).toNat)
  case atStart => exact ⟨0, none, 0, [], by omega, rfl, rfl, rfl, Lib.hid ⟨Rw3.nil _ _, fun e he => by cases he⟩, Lib.hid rfl, Lib.hid (Below.refl _ _)⟩
  case round =>
    obtain ⟨k, LA, lc, ls, hk, rfl, rfl, hll, RL, LS, HW⟩ := hrel
    have d1 := cellB HW.out K1.out
    by_cases g1 : (k : Int) < (n : Int)
    · obtain ⟨e, he⟩ := get_some es k (by omega)
      have hss := HS.out.sl.below HW.out
      obtain ⟨ad, rfl⟩ := slFE_addr hss he
      obtain ⟨y0, y1, y2⟩ := slFE_three hss he
      have hin : (0 : Int) ≤ (k : Int) ∧ (k : Int) < (n : Int) := by omega
      have hef : (es.map FE.f)[k]? = some e.f := by rw [List.getElem?_map, he]; rfl
      have Hct := Lib.hid (crash_take (ks := ks) (ts := ts) hef)
      have hem := HFL.out e (List.mem_of_getElem? he)
      have Heb := Lib.hid ((HS.out.ok e (List.mem_of_getElem? he)).1.below HW.out)
      have hba := below_alloc1 wr (.cells #[.string (bstr e.f.nm), .slice e.A e.f.b.length e.c, .int .i64 e.f.safe] 82)
      have q0 := box_cellsR wr [.string (bstr e.f.nm), .slice e.A e.f.b.length e.c, .int .i64 e.f.safe] 82 0 _ rfl
      have q1 := box_cellsR wr [.string (bstr e.f.nm), .slice e.A e.f.b.length e.c, .int .i64 e.f.safe] 82 1 _ rfl
      have q2 := box_cellsR wr [.string (bstr e.f.nm), .slice e.A e.f.b.length e.c, .int .i64 e.f.safe] 82 2 _ rfl
      clear hss he hef
      go_upto_region 6 with fail
      obtain ⟨w4, hw4⟩ : ∃ w4, w4 = wr.alloc (.cells #[.string (bstr e.f.nm), .slice e.A e.f.b.length e.c, .int .i64 e.f.safe] 82) := ⟨_, rfl⟩
      have hT4 : (wr.alloc (.cells [.string (bstr e.f.nm), .slice e.A e.f.b.length e.c, .int .i64 e.f.safe].toArray 82)) = w4 := hw4.symm
      rw [hT4] at q0 q1 q2
      rw [← hw4] at hba ⊢
      have RL4 := Lib.hid (RL.out.below hba)
      have HW4 := Lib.hid (HW.out.trans (hba.mono HW.out.size))
      have HE4 := Lib.hid (Heb.out.below hba)
      have Q0 := Lib.hid q0
      have Q1 := Lib.hid q1
      have Q2 := Lib.hid q2
      obtain ⟨bx, hbx⟩ : ∃ bx, bx = wr.heap.size := ⟨_, rfl⟩
      rw [← hbx] at Q0 Q1 Q2 ⊢
      clear hw4 hT4 hba d1 y0 y1 y2 RL HW Heb q0 q1 q2 hbx
      obtain ⟨kp, hkp, hkp2⟩ := toldI_nat ks k HKR.out
      obtain ⟨tr, htr, htr2⟩ := toldI_nat ts k HTR.out
      have hck := r2number_any KA kn kc ks k w4 (HKS.out.below HW4.out)
      have hct := r2number_any TA tn tc ts k w4 (HTS.out.below HW4.out)
      rw [hkp] at hck
      rw [htr] at hct
      rw [hkp, htr] at Hct
      have HKP := Lib.hid hkp
      have HTP := Lib.hid htr
      clear hkp htr
      go_wp2_with fail
      refine hck.mono ?_; rintro x wy ⟨rfl, rfl⟩
      clear hck
      go_wp2_with fail
      refine hct.mono ?_; rintro x wy ⟨rfl, rfl⟩
      clear hct
      go_upto_block 2 with fail
      obtain ⟨f, hf⟩ : ∃ f, f = e.f := ⟨_, rfl⟩
      rw [← hf] at hem HE4 Q0 Q1 Q2 Hct
      clear hf
      go_cut [12] (fun s12 wx => ∃ (m : Nat) (BA : Option Addr) (bc : Nat), m ≤ f.b.length ∧ s12 = .slice BA m bc ∧ Hid (leftF f (kp : Int) (tr : Int) = ⟨f.nm, preF f (kp : Int) (tr : Int) m, m⟩) ∧ Hid (Rw1 w4.heap.size wx BA m bc (preF f (kp : Int) (tr : Int) m)) ∧ Hid (Below w4.heap.size w4 wx))
      case first =>
        go_wp2_with fail
        go_loopw [11, 12, 13] (fun s11 s12 s13 wx => ∃ (m : Nat) (BA : Option Addr) (bc : Nat), m ≤ f.b.length ∧ s11 = .int .i64 ((tr - (m - (f.safe + kp)) : Nat) : Int) ∧ s12 = .slice BA m bc ∧ s13 = .int .i64 (m : Int) ∧ m - (f.safe + kp) ≤ tr ∧ Hid (∀ j, f.safe + kp ≤ j → j < m → j % 64 ≠ 0) ∧ Hid (Rw1 w4.heap.size wx BA m bc (preF f (kp : Int) (tr : Int) m)) ∧ Hid (Below w4.heap.size w4 wx)) (fun _ _ iv _ => f.b.length - (intOf iv).toNat)
        case atStart => exact ⟨0, none, 0, by omega, by rw [show 0 - (f.safe + kp) = 0 by omega]; rfl, rfl, rfl, by omega, Lib.hid (fun j _ h => by omega), Lib.hid (by rw [preF_zero]; exact Rw1.nil _ _), Lib.hid (Below.refl _ _)⟩
        case round =>
          obtain ⟨m, BA, bc, hm, rfl, rfl, rfl, hmt, HRun, RB, HX⟩ := hrel
          have q1 := cellB HX.out Q1.out
          have q2 := cellB HX.out Q2.out
          by_cases h1 : (m : Int) < (f.b.length : Int)
          · obtain ⟨x, hx⟩ := get_some f.b m (by omega)
            have hse := HE4.out.below HX.out
            obtain ⟨ae, hae, hce⟩ := hse.cells m (byteV x) (by simp [bytesV, hx])
            obtain ⟨eA, heA⟩ : ∃ eA, eA = e.A := ⟨_, rfl⟩
            rw [← heA] at hae q1
            subst hae
            clear heA
            have hcb : wr.cell? (ae.add m) = some (.int .u8 (x.toNat : Int)) := by simpa [byteV] using hce
            have hin2 : (0 : Int) ≤ (m : Int) ∧ (m : Int) < (f.b.length : Int) := by omega
            have hw1 : IntKind.i64.wrap ((m : Int) - (f.safe : Int)) = (m : Int) - (f.safe : Int) := by rw [IntKind.wrap_i64]; omega
            have hx4 := HX.out.size
            have hlo := fun h => Lib.hid (preF_low (keep := (kp : Int)) (tear := (tr : Int)) hx h)
            have hhi := fun h => Lib.hid (preF_high (f := f) (keep := (kp : Int)) (tear := (tr : Int)) (k := m) h)
            simp only [Int.toNat_natCast] at hlo hhi
            clear hse hce hx
            have RB0 := RB
            obtain ⟨pre, hpre⟩ : ∃ pre, pre = preF f (kp : Int) (tr : Int) m := ⟨_, rfl⟩
            rw [← hpre] at RB hlo hhi
            clear hpre
            have hb5 := below_alloc1 wr (.cells #[.int .u8 (x.toNat : Int)] 5)
            have RB5 := RB.out.below hb5
            have HX5 := Lib.hid (HX.out.trans (hb5.mono HX.out.size))
            have hs5 := HX5.out.size
            have ha5 := RB5.app
            have HB5 := Lib.hid RB5
            have hz5 := below_alloc1 wr (.cells #[.int .u8 0] 5)
            have RZ5 := RB.out.below hz5
            have HZ5 := Lib.hid (HX.out.trans (hz5.mono HX.out.size))
            have hsz5 := HZ5.out.size
            have haz5 := RZ5.app
            have HBZ5 := Lib.hid RZ5
            clear hb5 hz5 RB5 RZ5
            by_cases h2 : m < f.safe
            · have hlow := hlo (by omega)
              clear hlo hhi haz5 hsz5 HZ5 HBZ5
              go_wp2_with (at_builtin; refine wpList_app _ rfl _ _ 34 rfl w4.heap.size 5 (.int .u8 0) 1 1 Tryz.underlying34 infoByte rfl (by decide) BA m bc (bytesV pre) rfl ha5 (some ⟨wr.heap.size, 0, none⟩) 1 1 [byteV x] rfl (sl_one _ _ _) (bytesV_one [x]) (by unfold maxLen; omega) (by omega) (by omega) ?_; intro A6 c6 w6 hat)
              have R6 := Lib.hid (HB5.out.grow hat hs5)
              have H6 := Lib.hid (HX5.out.trans (Rw1.grownB hat hs5))
              clear hat ha5
              go_wp2_with fail
              go_roundw
              case rel => exact ⟨m + 1, A6, c6, by omega, by rw [show m + 1 - (f.safe + kp) = m - (f.safe + kp) by omega], rfl, by go_num, by omega, Lib.hid (fun j h3 h4 => by omega), by rw [hlow.out]; exact R6, H6⟩
              case measure => simp [intOf]; omega
            · by_cases h3 : m < f.safe + kp
              · have hlow := hlo (by omega)
                clear hlo hhi haz5 hsz5 HZ5 HBZ5
                go_wp2_with (at_builtin; refine wpList_app _ rfl _ _ 34 rfl w4.heap.size 5 (.int .u8 0) 1 1 Tryz.underlying34 infoByte rfl (by decide) BA m bc (bytesV pre) rfl ha5 (some ⟨wr.heap.size, 0, none⟩) 1 1 [byteV x] rfl (sl_one _ _ _) (bytesV_one [x]) (by unfold maxLen; omega) (by omega) (by omega) ?_; intro A6 c6 w6 hat)
                have R6 := Lib.hid (HB5.out.grow hat hs5)
                have H6 := Lib.hid (HX5.out.trans (Rw1.grownB hat hs5))
                clear hat ha5
                go_wp2_with fail
                go_roundw
                case rel => exact ⟨m + 1, A6, c6, by omega, by rw [show m + 1 - (f.safe + kp) = m - (f.safe + kp) by omega], rfl, by go_num, by omega, Lib.hid (fun j h3 h4 => by omega), by rw [hlow.out]; exact R6, H6⟩
                case measure => simp [intOf]; omega
              · have hhig := hhi (by omega)
                clear hlo hhi ha5 hs5 HX5 HB5
                have hmd : ((m : Int)).tmod 64 = ((m % 64 : Nat) : Int) := by rw [Int.tmod_eq_emod_of_nonneg (by omega)]; omega
                obtain ⟨d, hd⟩ : ∃ d, d = tr - (m - (f.safe + kp)) := ⟨_, rfl⟩
                obtain ⟨r, hr⟩ : ∃ r, r = m % 64 := ⟨_, rfl⟩
                have hwr : IntKind.i64.wrap ((r : Nat) : Int) = ((r : Nat) : Int) := by rw [IntKind.wrap_i64]; omega
                rw [← hr] at hmd
                rw [← hd]
                have Hr := Lib.hid hr
                have Hd := Lib.hid hd
                clear hr hd
                by_cases h4 : d = 0
                · subst h4
                  have HQ := Lib.hid (crash_end (tr := tr) hem.1 hm HRun.out hmt (.inr ⟨by omega, .inl (by have := Hd.out; omega)⟩))
                  clear haz5
                  go_wp2_with fail
                  go_meet
                  exact ⟨m, BA, bc, hm, rfl, HQ, RB0, HX⟩
                · by_cases h5 : r = 0
                  · subst h5
                    have HQ := Lib.hid (crash_end (tr := tr) hem.1 hm HRun.out hmt (.inr ⟨by omega, .inr (by have := Hr.out; omega)⟩))
                    clear haz5
                    go_wp2_with fail
                    go_meet
                    exact ⟨m, BA, bc, hm, rfl, HQ, RB0, HX⟩
                  · have hwd : IntKind.i64.wrap ((d : Int) - 1) = ((d - 1 : Nat) : Int) := by have := Hd.out; rw [IntKind.wrap_i64]; omega
                    have h4b : ((d : Int) == 0) = false := by simpa using h4
                    have h5b : ((r : Int) == 0) = false := by simpa using h5
                    go_wp2_with (at_builtin; refine wpList_app _ rfl _ _ 34 rfl w4.heap.size 5 (.int .u8 0) 1 1 Tryz.underlying34 infoByte rfl (by decide) BA m bc (bytesV pre) rfl haz5 (some ⟨wr.heap.size, 0, none⟩) 1 1 [byteV 0] rfl (sl_one _ _ _) (bytesV_one [0]) (by unfold maxLen; omega) (by omega) (by omega) ?_; intro A6 c6 w6 hat)
                    have R6 := Lib.hid (HBZ5.out.grow hat hsz5)
                    have H6 := Lib.hid (HZ5.out.trans (Rw1.grownB hat hsz5))
                    clear hat haz5
                    go_wp2_with fail
                    go_roundw
                    case rel => exact ⟨m + 1, A6, c6, by omega, by have := Hd.out; congr 2; omega, rfl, by go_num, by have := Hd.out; omega, Lib.hid (fun j h6 h7 => by
                      by_cases h8 : j = m
                      · rw [h8, ← Hr.out]; exact h5
                      · exact HRun.out j h6 (by omega)), by rw [hhig.out]; exact R6, H6⟩
                    case measure => simp [intOf]; omega
          · obtain rfl : m = f.b.length := by omega
            have HQ := Lib.hid (crash_end (tr := tr) hem.1 hm HRun.out hmt (.inl rfl))
            go_wp2_with fail
            go_meet
            exact ⟨_, BA, bc, hm, rfl, HQ, RB, HX⟩
      case rest =>
        obtain ⟨m, BA, bc, hm, rfl, HQ, RB, HX⟩ := hcut
        have q0 := cellB HX.out Q0.out
        obtain ⟨d, hd⟩ : ∃ d : FE, d = ⟨⟨f.nm, preF f (kp : Int) (tr : Int) m, m⟩, BA, bc⟩ := ⟨_, rfl⟩
        have hpl : d.f.b.length = m := by rw [hd]; exact preF_len (tr := tr) hm
        have hdc : feC d = [.string (bstr f.nm), .slice BA m bc, .int .i64 (m : Int)] := by rw [hd]; show [_, Value.slice BA (preF f (kp : Int) (tr : Int) m).length bc, _] = _; rw [preF_len (tr := tr) hm]
        have HD := Lib.hid (show d.f = leftF f (kp : Int) (tr : Int) by rw [HQ.out, hd])
        have RD := Lib.hid (show Rw1 w4.heap.size wc d.A d.f.b.length d.c d.f.b by rw [hpl, hd]; exact RB.out)
        clear hd HQ RB
        have hsl := sl_lit3F wc (feC d) 82 1 (by rw [hdc]; rfl)
        rw [hdc] at hsl
        have hb7 := below_alloc1 wc (.cells #[.string (bstr f.nm), .slice BA m bc, .int .i64 (m : Int)] 82)
        have RL7 := Lib.hid ((RL4.out.below HX.out).below hb7)
        have RD7 := Lib.hid (RD.out.below hb7)
        have HX7 := Lib.hid (HX.out.trans (hb7.mono HX.out.size))
        have HW7 := Lib.hid (HW4.out.trans (HX7.out.mono HW4.out.size))
        have hs7 := HW7.out.size
        have ha1 := RL7.out.row.app
        clear hb7
        go_wp2_with (at_builtin; refine wpList_app _ rfl _ _ 28 rfl w2.heap.size 82 (.agg #[.string ⟨#[]⟩, .slice none 0 0, .int .i64 0]) 3 48 Tryz.underlying28 infoF2 rfl (by decide) LA k lc (flatFE ls) rfl ha1 (some ⟨wc.heap.size, 0, none⟩) 1 1 _ rfl hsl (by rw [← hdc]; exact oneF d) (by unfold maxLen; omega) (by omega) hs7 ?_; intro A8 c8 w8 hat)
        have hat : AppTo w2.heap.size 82 3 (wc.alloc (.cells #[.string (bstr f.nm), .slice BA m bc, .int .i64 (m : Int)] 82)) w8 LA A8 (k + 1) c8 (flatFE (ls ++ [d])) := by rw [← flat_app, hdc]; exact hat
        have G1 := Lib.hid (CrR.grow RL4.out RL7.out HX7.out HW4.out.size hat RD7.out)
        have HW8 := Lib.hid (HW7.out.trans (RL7.out.row.grownB hat hs7))
        clear hat ha1 hsl hdc
        go_wp2_with fail
        go_roundw
        case rel => exact ⟨k + 1, A8, c8, ls ++ [d], by omega, rfl, by go_num, by simp [hll], G1, Lib.hid (by rw [Hct.out, List.map_append, LS.out]; simp [HD.out]), HW8⟩
        case measure => simp [intOf]; omega
    · obtain rfl : k = n := by omega
      have hcl : ls.map FE.f = crashF (es.map FE.f) ks ts := by rw [LS.out, List.take_of_length_le (by rw [HCL.out]; omega)]
      have HLS := Lib.hid hcl
      clear hcl
      have OR7 := Lib.hid (Own.below OR.out HW.out)
      have e0 := cellB HW.out K0.out
      have f0 := World.ownsRow.frozenAt OR7.out 0
      have f1 := World.ownsRow.frozenAt OR7.out 1
      have f2 := World.ownsRow.frozenAt OR7.out 2
      have f3 := World.ownsRow.frozenAt OR7.out 3
      have m0 := World.ownsRow.cellAt OR7.out 0 (by omega)
      have m1 := World.ownsRow.cellAt OR7.out 1 (by omega)
      have m2 := World.ownsRow.cellAt OR7.out 2 (by omega)
      have m3 := World.ownsRow.cellAt OR7.out 3 (by omega)
      simp only [List.getElem?_cons_zero, List.getElem?_cons_succ] at m0 m1 m2 m3
      have Hst := Lib.hid (stored4R OR7.out (.int .i64 room) (.slice LA k lc) (.int .i64 (-1)) (.bool false))
      have hzz := (own_ltR OR.out _ rfl).2
      go_wp2_with fail
      refine bodyPost_ret (results_cellD rfl _ _ _ ⟨w.heap.size + 1, 0, none⟩ rfl _ (load_own2D Hst.out.1)) rfl ?_
      have hfin : Below w.heap.size w _ := wrote2 (HB.out.trans (HW.out.mono HB.out.size)) Hst.out.2 (by omega)
      have hsx := HB.out.size
      have hke : ∀ a : Addr, w2.heap.size ≤ a.block → some a.block ≠ some (w.heap.size + 1) := fun a h e => by have h9 := Option.some.inj e; have h8 : w.heap.size + 1 < w2.heap.size := hzz; omega
      refine ⟨LA, lc, rfl, ls, ⟨sl_same RL.out.row.app.sl (fun a ha => Hst.out.2.block _ (RL.out.row.lies a ha).2 (hke a (RL.out.row.lies a ha).1)), fun _ a ha => ⟨Nat.lt_of_lt_of_le (RL.out.row.lies a ha).2 Hst.out.2.size, HG.out _ (by have := (RL.out.row.lies a ha).1; omega)⟩, fun e he => ⟨sl_same (RL.out.ok e he).1 (fun a ha => Hst.out.2.block _ ((RL.out.ok e he).2 a ha).1 (hke a ((RL.out.ok e he).2 a ha).2.1)), fun _ a ha => ⟨Nat.lt_of_lt_of_le ((RL.out.ok e he).2 a ha).1 Hst.out.2.size, HG.out _ (by have := ((RL.out.ok e he).2 a ha).2.1; omega)⟩⟩⟩, HLS.out, hfin⟩
end
end Go.Proofs.YtemegkapmgcffaaGreat
