import Derived.Test.YtphjmbhlokkdiaaRefEv
import Derived.Test.YtphjmbhlokkdiaaLawCuts
import Derived.Test.YtphjmbhlokkdiaaRefD
import Derived.Test.YtphjmbhlokkdiaaRegionS
import Derived.Deep.CutBlock
import Derived.Deep.DeepCutAuto
namespace Go.Proofs.Ytphjmbhlokkdiaa
open Go.RowKit
set_option linter.unusedSimpArgs false
set_option linter.unusedVariables false

/-- behind the six numbers -/
def finE (l : List UInt8) (ns : List Nat) (a : Int) (p : Nat) : Ev × Nat × Nat :=
  if (rdS l p 0).2.2 ≠ 0 then (.zero, 0, (rdS l p 0).2.2)
  else if 255 < ns.getD 0 0 then (.zero, 0, 102)
  else if rightB ⟨ns.getD 0 0, (ns.getD 1 0 : Nat), (ns.getD 2 0 : Nat), (ns.getD 3 0 : Nat), a, (ns.getD 5 0 : Nat), (rdS l p 0).1⟩ = false then (.zero, 0, 102)
  else (⟨ns.getD 0 0, (ns.getD 1 0 : Nat), (ns.getD 2 0 : Nat), (ns.getD 3 0 : Nat), a, (ns.getD 5 0 : Nat), (rdS l p 0).1⟩, (rdS l p 0).2.1, 0)
/-- d numbers are left, k have been read -/
def goE (l : List UInt8) : Nat → Nat → List Nat → Int → Nat → Ev × Nat × Nat
  | 0, _, ns, a, p => finE l ns a p
  | d + 1, k, ns, a, p =>
    if k = 4 then (if (gu l (p : Int)).2.2 ≠ 0 then (.zero, 0, (gu l (p : Int)).2.2) else goE l d (k + 1) (ns ++ [0]) (unzz (gu l (p : Int)).1) (gu l (p : Int)).2.1)
    else if (gu l (p : Int)).2.2 ≠ 0 then (.zero, 0, (gu l (p : Int)).2.2)
    else if 4611686018427387904 < (gu l (p : Int)).1 then (.zero, 0, 10)
    else goE l d (k + 1) (ns ++ [(gu l (p : Int)).1]) a (gu l (p : Int)).2.1

theorem rdN_cases (l : List UInt8) (p : Nat) : (∃ x, x ≠ 0 ∧ rdN l p 0 = (0, p, x) ∧ ((gu l (p : Int)).2.2 = x ∨ ((gu l (p : Int)).2.2 = 0 ∧ 4611686018427387904 < (gu l (p : Int)).1 ∧ x = 10))) ∨
    ((gu l (p : Int)).2.2 = 0 ∧ (gu l (p : Int)).1 ≤ 4611686018427387904 ∧ rdN l p 0 = ((gu l (p : Int)).1, (gu l (p : Int)).2.1, 0)) := by
  unfold rdN
  rw [if_neg (by simp)]
  by_cases h : (gu l (p : Int)).2.2 ≠ 0
  · exact .inl ⟨_, h, by rw [if_pos h], .inl rfl⟩
  · rw [if_neg h]
    have h0 : (gu l (p : Int)).2.2 = 0 := by omega
    by_cases h2 : 4611686018427387904 < (gu l (p : Int)).1
    · exact .inl ⟨10, by decide, by rw [if_pos h2], .inr ⟨h0, h2, rfl⟩⟩
    · exact .inr ⟨h0, by omega, by rw [if_neg h2]⟩
theorem goE_step (l : List UInt8) (d k p : Nat) (ns : List Nat) (a : Int) (hk : k ≠ 4) :
    (∃ x, x ≠ 0 ∧ rdN l p 0 = (0, p, x) ∧ goE l (d + 1) k ns a p = (.zero, 0, x)) ∨ (∃ n q, rdN l p 0 = (n, q, 0) ∧ goE l (d + 1) k ns a p = goE l d (k + 1) (ns ++ [n]) a q) := by
  rcases rdN_cases l p with ⟨x, hx, h1, h2⟩ | ⟨h1, h2, h3⟩
  · refine .inl ⟨x, hx, h1, ?_⟩
    rw [goE, if_neg hk]
    rcases h2 with h2 | ⟨h2, h3, h4⟩
    · rw [if_pos (by rw [h2]; exact hx), h2]
    · rw [if_neg (by rw [h2]; simp), if_pos h3, h4]
  · refine .inr ⟨_, _, h3, ?_⟩
    rw [goE, if_neg hk, if_neg (by rw [h1]; simp), if_neg (by omega)]
theorem goE_step4 (l : List UInt8) (d p : Nat) (ns : List Nat) (a : Int) :
    (∃ x, x ≠ 0 ∧ rdI l p 0 = (0, p, x) ∧ goE l (d + 1) 4 ns a p = (.zero, 0, x)) ∨ (∃ i q, rdI l p 0 = (i, q, 0) ∧ goE l (d + 1) 4 ns a p = goE l d 5 (ns ++ [0]) i q) := by
  by_cases h : (gu l (p : Int)).2.2 ≠ 0
  · refine .inl ⟨_, h, ?_, ?_⟩
    · unfold rdI
      rw [if_neg (by simp), gi_of_gu, if_pos h]
    · rw [goE, if_pos rfl, if_pos h]
  · refine .inr ⟨unzz (gu l (p : Int)).1, (gu l (p : Int)).2.1, ?_, ?_⟩
    · unfold rdI
      rw [if_neg (by simp), gi_of_gu, if_neg h]
    · rw [goE, if_pos rfl, if_neg h]
theorem goE_all (l : List UInt8) (p : Nat) : goE l 6 0 [] 0 p = rdE l p := by
  unfold rdE
  rcases goE_step l 5 0 p [] 0 (by decide) with ⟨x, hx, h1, h2⟩ | ⟨n0, q0, h1, h2⟩
  · rw [h2]; simp [h1, rdN_bad _ _ x hx, rdI_bad _ _ x hx, rdS_bad _ _ x hx, hx]
  rw [h2]; simp only [h1]
  rcases goE_step l 4 1 q0 ([] ++ [n0]) 0 (by decide) with ⟨x, hx, h1, h2⟩ | ⟨n1, q1, h1, h2⟩
  · rw [h2]; simp [h1, rdN_bad _ _ x hx, rdI_bad _ _ x hx, rdS_bad _ _ x hx, hx]
  rw [h2]; simp only [h1]
  rcases goE_step l 3 2 q1 ([] ++ [n0] ++ [n1]) 0 (by decide) with ⟨x, hx, h1, h2⟩ | ⟨n2, q2, h1, h2⟩
  · rw [h2]; simp [h1, rdN_bad _ _ x hx, rdI_bad _ _ x hx, rdS_bad _ _ x hx, hx]
  rw [h2]; simp only [h1]
  rcases goE_step l 2 3 q2 ([] ++ [n0] ++ [n1] ++ [n2]) 0 (by decide) with ⟨x, hx, h1, h2⟩ | ⟨n3, q3, h1, h2⟩
  · rw [h2]; simp [h1, rdN_bad _ _ x hx, rdI_bad _ _ x hx, rdS_bad _ _ x hx, hx]
  rw [h2]; simp only [h1]
  rcases goE_step4 l 1 q3 ([] ++ [n0] ++ [n1] ++ [n2] ++ [n3]) 0 with ⟨x, hx, h1, h2⟩ | ⟨i, q4, h1, h2⟩
  · rw [h2]; simp [h1, rdN_bad _ _ x hx, rdI_bad _ _ x hx, rdS_bad _ _ x hx, hx]
  rw [h2]; simp only [h1]
  rcases goE_step l 0 5 q4 ([] ++ [n0] ++ [n1] ++ [n2] ++ [n3] ++ [0]) i (by decide) with ⟨x, hx, h1, h2⟩ | ⟨n5, q5, h1, h2⟩
  · rw [h2]; simp [h1, rdN_bad _ _ x hx, rdI_bad _ _ x hx, rdS_bad _ _ x hx, hx]
  rw [h2]; simp only [h1]
  rfl

theorem infoU64 : (Try.prog.info? 86).map (fun i => (i.zero, i.size, i.bytes)) = some (some (.int .u64 0), 1, 8) := by kernel_rfl
def numsV (ns : List Nat) : List Value := ns.map fun (x : Nat) => Value.int .u64 (x : Int)
theorem numsV_one (ns : List Nat) : ∀ u ∈ numsV ns, u.oneCell' = true := by
  intro u hu; simp [numsV] at hu; obtain ⟨x, _, rfl⟩ := hu; rfl
theorem Own.keep {base N g size n c : Nat} {e : TypeId} {w w' : World} {cs : List Value} (h : Own base e size w (some ⟨g, 0, none⟩) n c cs) (hb : Below N w w') (hg : g < N) : Own base e size w' (some ⟨g, 0, none⟩) n c cs := by
  refine ⟨h.1, ?_⟩
  rcases h.2 with ⟨h', _⟩ | ⟨g', cap, cur, hv, hb', hg', rest⟩
  · simp at h'
  · simp only [Value.slice.injEq, Option.some.injEq, Addr.mk.injEq, and_true, true_and] at hv
    obtain ⟨rfl, rfl⟩ := hv
    exact .inr ⟨_, _, cur, rfl, hb', (hb.block _ hg).trans hg', rest⟩

theorem numsV_snoc (ns : List Nat) (x : Nat) : numsV ns ++ [.int .u64 (x : Int)] = numsV (ns ++ [x]) := by simp [numsV]

theorem six_of {ns : List Nat} (h : ns.length = 6) : ∃ n0 n1 n2 n3 n4 n5, ns = [n0, n1, n2, n3, n4, n5] := by
  rcases ns with _ | ⟨n0, _ | ⟨n1, _ | ⟨n2, _ | ⟨n3, _ | ⟨n4, _ | ⟨n5, _ | ⟨n6, r⟩⟩⟩⟩⟩⟩⟩ <;> simp at h
  exact ⟨n0, n1, n2, n3, n4, n5, rfl⟩
theorem finE_gb {l : List UInt8} {p n0 n1 n2 n3 n4 n5 q2 q3 : Nat} {q1 : List UInt8} {a : Int} (h : gb l (p : Int) 40 = (q1, q2, q3)) :
    finE l [n0, n1, n2, n3, n4, n5] a p = if q3 = 3 then (.zero, 0, 10) else if q3 ≠ 0 then (.zero, 0, q3) else if 255 < n0 then (.zero, 0, 102)
      else if rightB ⟨n0, (n1 : Nat), (n2 : Nat), (n3 : Nat), a, (n5 : Nat), q1⟩ = false then (.zero, 0, 102) else (⟨n0, (n1 : Nat), (n2 : Nat), (n3 : Nat), a, (n5 : Nat), q1⟩, q2, 0) := by
  have e : rdS l p 0 = if q3 = 3 then ([], p, 10) else if q3 ≠ 0 then ([], p, q3) else (q1, q2, 0) := by unfold rdS; rw [if_neg (by simp), h]
  rw [finE, e]
  by_cases h3 : q3 = 3
  · subst h3; simp
  · by_cases h4 : q3 = 0
    · subst h4; simp
    · simp [h3, h4]
/-- what is below B stays as it was -/
def RB (B : Nat) (w w' : World) : Prop := B ≤ w.heap.size → Below B w w'
theorem RB.below {B : Nat} {w w' : World} (h : Below w.heap.size w w') : RB B w w' := fun hB => h.mono hB
theorem RB.trans {B : Nat} {w w1 w2 : World} (h : RB B w w1) (k : RB B w1 w2) : RB B w w2 := fun hB => (h hB).trans (k (Nat.le_trans hB (h hB).size))
theorem RB.grown {B g : Nat} {w w' : World} (h : w.grownBy w' (some g)) (hg : B ≤ g) : RB B w w' := fun hB => (Below.refl _ _).grown h hB (fun k hk => by cases hk; exact hg)
theorem RB.cell {w w' : World} {a : Addr} {u : Value} (h : RB w.heap.size w w') (hc : w.cell? a = some u) : w'.cell? a = some u :=
  (World.cell?_of_block ((h (Nat.le_refl _)).block _ (World.block_lt_of_cell? _ _ hc))).trans hc
theorem Own.lower {base base' size n c : Nat} {e : TypeId} {w : World} {A : Option Addr} {cs : List Value} (h : Own base e size w A n c cs) (hb : base' ≤ base) : Own base' e size w A n c cs := by
  refine ⟨h.1, ?_⟩
  rcases h.2 with h | ⟨g, cap, cur, a, b, r⟩
  · exact .inl h
  · exact .inr ⟨g, cap, cur, a, by omega, r⟩
def Jnew (B : Nat) (cs : List Value) (v : Value) (w : World) : Prop := ∃ g, v = .pointer (some ⟨g, 0, none⟩) ∧ B ≤ g ∧ Own B 24 1 w (some ⟨g, 0, none⟩) 7 7 cs
theorem Jnew_stable (B : Nat) (cs : List Value) : Stable (Jnew B cs) := fun _ _ _ hb ⟨g, e, h1, h2⟩ => ⟨g, e, h1, h2.below hb⟩

set_option maxRecDepth 100000 in
set_option maxHeartbeats 8000000 in
theorem refRead_any (A : Option Addr) (n c : Nat) (l : List UInt8) (at_ : Int) (w : World) (hs : Sl w 1 A n c (bytesV l)) (hn : n ≤ 1000000) (hq : -9223372036854775808 ≤ at_ ∧ at_ ≤ 9223372036854775807) :
    Calls Try.prog 29 #[.slice A n c, .int .i64 at_] w fun x w' => x = .returned (.tuple #[(rdEv l at_).1.v, .int .i64 ((rdEv l at_).2.1 : Nat), .int .i64 ((rdEv l at_).2.2 : Nat)]) ∧ Below w.heap.size w w' := by
  have hl := hs.blen
  have hb1 := below_alloc1 w (.cells Ev.zero.cells.toArray 24)
  unfold rdEv
  rw [hl]
  by_cases h0 : at_ < 0 ∨ (n : Int) < at_
  · rw [if_pos h0]
    go_enter Try.func29, Try.ntmps29
    by_cases h1 : at_ < 0
    · go_wp2_with fail
      have hz := load_own (new_own w Ev.zero.cells 24 7 rfl (by unfold maxLen; omega))
      refine bodyPost_ret (results_cell2 rfl _ _ _ ⟨w.heap.size, 0, none⟩ rfl _ hz) rfl ?_
      exact ⟨rfl, hb1⟩
    · have h2 : (n : Int) < at_ := by omega
      go_wp2_with fail
      have hz := load_own (new_own w Ev.zero.cells 24 7 rfl (by unfold maxLen; omega))
      refine bodyPost_ret (results_cell2 rfl _ _ _ ⟨w.heap.size, 0, none⟩ rfl _ hz) rfl ?_
      exact ⟨rfl, hb1⟩
  · rw [if_neg h0]
    obtain ⟨at0, rfl⟩ : ∃ k : Nat, at_ = (k : Int) := ⟨at_.toNat, by omega⟩
    have hle : (at0 : Int) ≤ (n : Int) := by omega
    rw [Int.toNat_natCast, ← goE_all]
    obtain ⟨pr, hp⟩ : ∃ p, p = goE l 6 0 [] 0 at0 := ⟨_, rfl⟩
    rw [← hp]
    have HP := Lib.hid hp
    clear hp hb1 h0 hl
    have r1 : Own w.heap.size 24 1 (w.alloc (.cells #[.int .u8 0, .int .i64 0, .int .i64 0, .int .i64 0, .int .i64 0, .int .i64 0, .string { data := #[] }] 24)) (some ⟨w.heap.size, 0, none⟩) 7 7 Ev.zero.cells := new_own w Ev.zero.cells 24 7 rfl (by unfold maxLen; omega)
    have z1 := below_alloc1 w (.cells #[.int .u8 0, .int .i64 0, .int .i64 0, .int .i64 0, .int .i64 0, .int .i64 0, .string { data := #[] }] 24)
    have n1 : (w.alloc (.cells #[.int .u8 0, .int .i64 0, .int .i64 0, .int .i64 0, .int .i64 0, .int .i64 0, .string { data := #[] }] 24)).heap.size = w.heap.size + 1 := by simp
    go_enter Try.func29, Try.ntmps29
    go_upto_block 0 with fail
    generalize w.alloc (.cells #[.int .u8 0, .int .i64 0, .int .i64 0, .int .i64 0, .int .i64 0, .int .i64 0, .string { data := #[] }] 24) = W1 at *
    have hs1 := hs.below z1
    have Hn1 := Lib.hid n1
    clear hs n1
    have hd1 : decide ((at0 : Int) < 0) = false := by simp
    have hd2 : decide (n < at0) = false := by simp; omega
    simp only [hd1, hd2, Bool.or_self]
    clear hd1 hd2
    go_cut [1, 7, 8] (fun s1 s7 s8 wx => ∃ (p : Nat) (ns : List Nat) (a : Int) (A7 : Option Addr) (c7 : Nat), s1 = .int .i64 (p : Int) ∧ s7 = .slice A7 6 c7 ∧ s8 = .int .i64 a ∧ ns.length = 6 ∧ (∀ x ∈ ns, x ≤ 4611686018427387904) ∧ Hid (finE l ns a p = pr) ∧ App W1.heap.size 86 1 wx A7 6 c7 (numsV ns) ∧ Below W1.heap.size W1 wx)
    case first =>
      go_wp2_with fail
      go_loopw [1, 7, 8, 9] (fun s1 s7 s8 s9 wx => ∃ (k p : Nat) (ns : List Nat) (a : Int) (A7 : Option Addr) (c7 : Nat), k ≤ 6 ∧ s1 = .int .i64 (p : Int) ∧ s7 = .slice A7 k c7 ∧ s8 = .int .i64 a ∧ s9 = .int .i64 (k : Int) ∧ ns.length = k ∧ (∀ x ∈ ns, x ≤ 4611686018427387904) ∧ Hid (goE l (6 - k) k ns a p = pr) ∧ App W1.heap.size 86 1 wx A7 k c7 (numsV ns) ∧ Below W1.heap.size W1 wx) (fun _ _ _ iv _ => 6 - (intOf iv).toNat)
      case atStart => exact ⟨0, at0, [], 0, none, 0, by omega, rfl, rfl, rfl, rfl, rfl, by simp, Lib.hid HP.out.symm, App.nil _ _ _ _, Below.refl _ _⟩
      case round =>
        obtain ⟨k, p, ns, a, A7, c7, hk6, rfl, rfl, rfl, rfl, hlen, hmax, Hg, happ, hbx⟩ := hrel
        have hres := r1.keep hbx (by have := Hn1.out; omega)
        have hsr := hs1.below hbx
        have hbW := z1.trans (hbx.mono z1.size)
        by_cases hk : k < 6
        · have hgo := Hg.out
          rw [show 6 - k = (5 - k) + 1 by omega, goE] at hgo
          obtain ⟨⟨q1, q2, q3⟩, hgu⟩ : ∃ q, gu l (p : Int) = q := ⟨_, rfl⟩
          rw [hgu] at hgo
          simp only at hgo
          have hql := gu_lt l (p : Int)
          rw [hgu] at hql
          simp only at hql
          have Hgu := Lib.hid hgu
          have Hgo := Lib.hid hgo
          have hk5 : k ≤ 5 := by omega
          clear hgu hgo Hg
          have y0 := World.ownsRow.cellAt hres 0 (by omega)
          have y1 := World.ownsRow.cellAt hres 1 (by omega)
          have y2 := World.ownsRow.cellAt hres 2 (by omega)
          have y3 := World.ownsRow.cellAt hres 3 (by omega)
          have y4 := World.ownsRow.cellAt hres 4 (by omega)
          have y5 := World.ownsRow.cellAt hres 5 (by omega)
          have y6 := World.ownsRow.cellAt hres 6 (by omega)
          have x0 := World.ownsRow.frozenAt hres 0
          have x1 := World.ownsRow.frozenAt hres 1
          have x2 := World.ownsRow.frozenAt hres 2
          have x3 := World.ownsRow.frozenAt hres 3
          have x4 := World.ownsRow.frozenAt hres 4
          have x5 := World.ownsRow.frozenAt hres 5
          have x6 := World.ownsRow.frozenAt hres 6
          simp only [Ev.zero, Ev.cells, List.getElem?_cons_succ, List.getElem?_cons_zero] at y0 y1 y2 y3 y4 y5 y6
          have st := stored7 hres (.int .u8 0) (.int .i64 0) (.int .i64 0) (.int .i64 0) (.int .i64 0) (.int .i64 0) (.string { data := #[] })
          by_cases hk4 : k = 4
          · subst hk4
            by_cases he : q3 = 0
            · subst he
              clear y0 y1 y2 y3 y4 y5 y6 x0 x1 x2 x3 x4 x5 x6 st hres
              have hgo := Hgo.out
              rw [if_pos rfl, if_neg (by simp)] at hgo
              have Hg2 := Lib.hid hgo
              clear hgo Hgo
              go_wp2_with fail
              refine (refGetInt_any A n c l (p : Int) _ hsr (by omega)).mono ?_; rintro x w' ⟨rfl, rfl⟩
              rw [gi_of_gu, Hgu.out]
              simp only
              have happ2 := happ.alloc (.cells #[.int .u64 0] 86)
              have hsl2 := sl_cells wr [.int .u64 0] 86
              have hbn := below_alloc1 wr (.cells #[.int .u64 0] 86)
              have hbx2 := hbx.trans (hbn.mono hbx.size)
              have Hbs := Lib.hid hbx2.size
              clear happ hbn
              go_wp2_with (at_builtin; refine wpList_app _ rfl (.tmp 48) (.tmp 49) 107 rfl W1.heap.size 86 (.int .u64 0) 1 8 Try.underlying107 infoU64 rfl (by decide) A7 4 c7 (numsV ns) rfl happ2 (some ⟨wr.heap.size, 0, none⟩) 1 1 [.int .u64 0] rfl hsl2 (fun u hu => by simp at hu; subst hu; rfl) (by unfold maxLen; omega) (by omega) Hbs.out ?_; intro A8 d8 w8 hat8)
              have hb8 := hbx2.trans ((hat8.below Hbs.out).mono (Nat.le_refl _))
              have ha8 := hat8.app
              go_roundw
              case rel =>
                exact ⟨5, q2, ns ++ [0], unzz q1, A8, d8, by omega, rfl, rfl, rfl, rfl, by simp [hlen], by intro x hx; rw [List.mem_append, List.mem_singleton] at hx; rcases hx with hx | rfl; exact hmax x hx; omega, Hg2, by rw [← numsV_snoc]; exact ha8, hb8⟩
              case measure => simp [intOf]
            · have hgo := Hgo.out
              rw [if_pos rfl, if_pos he] at hgo
              subst hgo
              have he0 : 0 < q3 := by omega
              clear Hgo happ
              go_wp2_with fail
              refine (refGetInt_any A n c l (p : Int) _ hsr (by omega)).mono ?_; rintro x w' ⟨rfl, rfl⟩
              rw [gi_of_gu, Hgu.out]
              simp only
              go_wp2_with fail
              (try simp only [Exit.inBlock, Exit.then])
              refine bodyPost_ret (results_cell2 rfl _ _ _ ⟨w.heap.size, 0, none⟩ rfl _ (load_own st.1)) rfl ?_
              exact ⟨rfl, hbW.grown st.2 hbW.size (fun k hk => by cases hk; exact Nat.le_refl _)⟩
          · have hki : ¬ (k : Int) = 4 := by omega
            by_cases he : q3 = 0
            · subst he
              have hgo := Hgo.out
              rw [if_neg hk4, if_neg (by simp)] at hgo
              by_cases hb : 4611686018427387904 < q1
              · rw [if_pos hb] at hgo
                subst hgo
                clear Hgo happ
                go_wp2_with fail
                refine (refGetUint_any A n c l (p : Int) _ hsr (by omega)).mono ?_; rintro x w' ⟨rfl, rfl⟩
                rw [Hgu.out]
                simp only
                go_wp2_with fail
                (try simp only [Exit.inBlock, Exit.then])
                refine bodyPost_ret (results_cell2 rfl _ _ _ ⟨w.heap.size, 0, none⟩ rfl _ (load_own st.1)) rfl ?_
                exact ⟨rfl, hbW.grown st.2 hbW.size (fun k hk => by cases hk; exact Nat.le_refl _)⟩
              · rw [if_neg hb] at hgo
                have hb2 : q1 ≤ 4611686018427387904 := by omega
                have Hg2 := Lib.hid hgo
                clear hgo Hgo
                clear y0 y1 y2 y3 y4 y5 y6 x0 x1 x2 x3 x4 x5 x6 st hres
                go_wp2_with fail
                refine (refGetUint_any A n c l (p : Int) _ hsr (by omega)).mono ?_; rintro x w' ⟨rfl, rfl⟩
                rw [Hgu.out]
                simp only
                have happ2 := happ.alloc (.cells #[.int .u64 (q1 : Int)] 86)
                have hsl2 := sl_cells wr [.int .u64 (q1 : Int)] 86
                have hbn := below_alloc1 wr (.cells #[.int .u64 (q1 : Int)] 86)
                have hbx2 := hbx.trans (hbn.mono hbx.size)
                have Hbs := Lib.hid hbx2.size
                clear happ hbn
                go_wp2_with (at_builtin; refine wpList_app _ rfl (.tmp 66) (.tmp 68) 107 rfl W1.heap.size 86 (.int .u64 0) 1 8 Try.underlying107 infoU64 rfl (by decide) A7 k c7 (numsV ns) rfl happ2 (some ⟨wr.heap.size, 0, none⟩) 1 1 [.int .u64 (q1 : Int)] rfl hsl2 (fun u hu => by simp at hu; subst hu; rfl) (by unfold maxLen; omega) (by omega) Hbs.out ?_; intro A8 d8 w8 hat8)
                have hb8 := hbx2.trans ((hat8.below Hbs.out).mono (Nat.le_refl _))
                have ha8 := hat8.app
                go_roundw
                case rel =>
                    exact ⟨k + 1, q2, ns ++ [q1], a, A8, d8, by omega, rfl, rfl, rfl, by go_num, by simp [hlen], by intro x hx; rw [List.mem_append, List.mem_singleton] at hx; rcases hx with hx | rfl; exact hmax x hx; omega, by rw [show 6 - (k + 1) = 5 - k by omega]; exact Hg2, by rw [← numsV_snoc]; exact ha8, hb8⟩
                case measure => simp [intOf]; omega
            · have hgo := Hgo.out
              rw [if_neg hk4, if_pos he] at hgo
              subst hgo
              have he0 : 0 < q3 := by omega
              clear Hgo happ
              go_wp2_with fail
              refine (refGetUint_any A n c l (p : Int) _ hsr (by omega)).mono ?_; rintro x w' ⟨rfl, rfl⟩
              rw [Hgu.out]
              simp only
              go_wp2_with fail
              (try simp only [Exit.inBlock, Exit.then])
              refine bodyPost_ret (results_cell2 rfl _ _ _ ⟨w.heap.size, 0, none⟩ rfl _ (load_own st.1)) rfl ?_
              exact ⟨rfl, hbW.grown st.2 hbW.size (fun k hk => by cases hk; exact Nat.le_refl _)⟩
        · obtain rfl : k = 6 := by omega
          go_wp2_with fail
          go_meet
          exact ⟨p, ns, a, A7, c7, rfl, rfl, rfl, hlen, hmax, Hg, happ, hbx⟩
    case rest =>
      obtain ⟨p, ns, a, A7, c7, rfl, rfl, rfl, hlen, hmax, Hg, happ, hbx⟩ := hcut
      obtain ⟨n0, n1, n2, n3, n4, n5, rfl⟩ := six_of hlen
      have hres := r1.keep hbx (by have := Hn1.out; omega)
      have hsr := hs1.below hbx
      have hbW := z1.trans (hbx.mono z1.size)
      have m0 := hmax n0 (by simp)
      have m1 := hmax n1 (by simp)
      have m2 := hmax n2 (by simp)
      have m3 := hmax n3 (by simp)
      have m5 := hmax n5 (by simp)
      obtain ⟨⟨q1, q2, q3⟩, hgb⟩ : ∃ q : List UInt8 × Nat × Nat, gb l (p : Int) 40 = q := ⟨_, rfl⟩
      have hgo := Hg.out
      rw [finE_gb hgb] at hgo
      have Hgo := Lib.hid hgo
      have Hgb := Lib.hid hgb
      have HR := Lib.hid hres
      have HA := Lib.hid happ
      clear hgo hgb Hg hmax hlen hs1 r1 z1 hbx Hn1 HP hres happ
      go_wp2_with fail
      refine (refGetBlob_any A n c l (p : Int) 40 _ hsr hn (by decide) (by decide)).mono ?_; rintro x w2 ⟨A2, m2, c2, rfl, hS2, hB2⟩
      rw [Hgb.out] at hS2 ⊢
      simp only at hS2 ⊢
      have hres := HR.out.below hB2
      have hsl := HA.out.sl.below hB2
      have hbW2 := hbW.trans (hB2.mono hbW.size)
      clear HR HA Hgb hB2 hbW hsr
      obtain ⟨ad, rfl, z0'⟩ := hsl.cells 0 (.int .u64 (n0 : Int)) rfl
      have z0 : w2.cell? ad = some (.int .u64 (n0 : Int)) := z0'
      clear z0'
      obtain ⟨_, e1, z1⟩ := hsl.cells 1 (.int .u64 (n1 : Int)) rfl
      cases e1
      replace z1 : w2.cell? { block := ad.block, off := ad.off + 1, spot := none } = some (.int .u64 (n1 : Int)) := z1
      obtain ⟨_, e2, z2⟩ := hsl.cells 2 (.int .u64 (n2 : Int)) rfl
      cases e2
      replace z2 : w2.cell? { block := ad.block, off := ad.off + 2, spot := none } = some (.int .u64 (n2 : Int)) := z2
      obtain ⟨_, e3, z3⟩ := hsl.cells 3 (.int .u64 (n3 : Int)) rfl
      cases e3
      replace z3 : w2.cell? { block := ad.block, off := ad.off + 3, spot := none } = some (.int .u64 (n3 : Int)) := z3
      obtain ⟨_, e5, z5⟩ := hsl.cells 5 (.int .u64 (n5 : Int)) rfl
      cases e5
      replace z5 : w2.cell? { block := ad.block, off := ad.off + 5, spot := none } = some (.int .u64 (n5 : Int)) := z5
      clear hsl
      have y0 := World.ownsRow.cellAt hres 0 (by omega)
      have y1 := World.ownsRow.cellAt hres 1 (by omega)
      have y2 := World.ownsRow.cellAt hres 2 (by omega)
      have y3 := World.ownsRow.cellAt hres 3 (by omega)
      have y4 := World.ownsRow.cellAt hres 4 (by omega)
      have y5 := World.ownsRow.cellAt hres 5 (by omega)
      have y6 := World.ownsRow.cellAt hres 6 (by omega)
      have x0 := World.ownsRow.frozenAt hres 0
      have x1 := World.ownsRow.frozenAt hres 1
      have x2 := World.ownsRow.frozenAt hres 2
      have x3 := World.ownsRow.frozenAt hres 3
      have x4 := World.ownsRow.frozenAt hres 4
      have x5 := World.ownsRow.frozenAt hres 5
      have x6 := World.ownsRow.frozenAt hres 6
      simp only [Ev.zero, Ev.cells, List.getElem?_cons_succ, List.getElem?_cons_zero] at y0 y1 y2 y3 y4 y5 y6
      have st := stored7 hres (.int .u8 0) (.int .i64 0) (.int .i64 0) (.int .i64 0) (.int .i64 0) (.int .i64 0) (.string { data := #[] })
      by_cases h3 : q3 = 3
      · subst h3
        have hgo := Hgo.out
        rw [if_pos rfl] at hgo
        subst hgo
        clear Hgo
        go_wp2_with fail
        refine bodyPost_ret (results_cell2 rfl _ _ _ ⟨w.heap.size, 0, none⟩ rfl _ (load_own st.1)) rfl ?_
        exact ⟨rfl, hbW2.grown st.2 hbW2.size (fun k hk => by cases hk; exact Nat.le_refl _)⟩
      · by_cases h4 : q3 = 0
        · subst h4
          by_cases h5 : 255 < n0
          · have hgo := Hgo.out
            rw [if_neg (by simp), if_neg (by simp), if_pos h5] at hgo
            subst hgo
            clear Hgo
            go_wp2_with fail
            refine bodyPost_ret (results_cell2 rfl _ _ _ ⟨w.heap.size, 0, none⟩ rfl _ (load_own st.1)) rfl ?_
            exact ⟨rfl, hbW2.grown st.2 hbW2.size (fun k hk => by cases hk; exact Nat.le_refl _)⟩
          · have hgo := Hgo.out
            rw [if_neg (by simp), if_neg (by simp), if_neg h5] at hgo
            have Hg2 := Lib.hid hgo
            have h6 : n0 ≤ 255 := by omega
            clear Hgo hgo h5 y0 y1 y2 y3 y4 y5 y6 x0 x1 x2 x3 x4 x5 x6 st
            have hw0 : IntKind.u8.wrap (n0 : Int) = (n0 : Int) := wrap_u8_nat _ (by omega)
            have hw1 : IntKind.i64.wrap (n1 : Int) = (n1 : Int) := IntWalk.i64_in _ (by omega)
            have hw2 : IntKind.i64.wrap (n2 : Int) = (n2 : Int) := IntWalk.i64_in _ (by omega)
            have hw3 : IntKind.i64.wrap (n3 : Int) = (n3 : Int) := IntWalk.i64_in _ (by omega)
            have hw5 : IntKind.i64.wrap (n5 : Int) = (n5 : Int) := IntWalk.i64_in _ (by omega)
            go_wp2_with fail
            --@region 29 28 refread28.spec
            refine wp_region_runS [24, 25] (fun k => if k = 25 then 24 else k) (fun _ _ => True) (by kernel_rfl) (by kernel_rfl) (by kernel_rfl) (R := RB w2.heap.size) (fun _ _ h => RB.below h) (fun _ _ _ => RB.trans) (fun _ _ _ _ _ => trivial) trivial ?_
            apply RunS.pure (by decide)
            · intro vs w hb hd; clear hd; simp only [List.take, putL, Act.put, List.setIfInBounds_toArray, List.set_cons_zero, List.set_cons_succ]; unfold StepOK; go_simp; exact ⟨Below.refl _ _, isV_mk _ _⟩
            apply RunS.pure (by decide)
            · intro vs w hb hd; have d0 : isV _ (vs 0) w := hd 0 (by decide) (by kernel_rfl); unfold isV at d0; clear hd; simp only [List.take, putL, Act.put, List.setIfInBounds_toArray, List.set_cons_zero, List.set_cons_succ]; unfold StepOK; go_simp; exact ⟨Below.refl _ _, isV_mk _ _⟩
            apply RunS.pure (by decide)
            · intro vs w hb hd; have d1 : isV _ (vs 1) w := hd 1 (by decide) (by kernel_rfl); unfold isV at d1; clear hd; have hc := RB.cell hb z0; simp only [List.take, putL, Act.put, List.setIfInBounds_toArray, List.set_cons_zero, List.set_cons_succ]; unfold StepOK; go_simp; exact ⟨Below.refl _ _, isV_mk _ _⟩
            apply RunS.pure (by decide)
            · intro vs w hb hd; have d2 : isV _ (vs 2) w := hd 2 (by decide) (by kernel_rfl); unfold isV at d2; clear hd; have hq := hw0; simp only [List.take, putL, Act.put, List.setIfInBounds_toArray, List.set_cons_zero, List.set_cons_succ]; unfold StepOK; go_simp; exact ⟨Below.refl _ _, isV_mk _ _⟩
            apply RunS.pure (by decide)
            · intro vs w hb hd; clear hd; simp only [List.take, putL, Act.put, List.setIfInBounds_toArray, List.set_cons_zero, List.set_cons_succ]; unfold StepOK; go_simp; exact ⟨Below.refl _ _, isV_mk _ _⟩
            apply RunS.pure (by decide)
            · intro vs w hb hd; have d4 : isV _ (vs 4) w := hd 4 (by decide) (by kernel_rfl); unfold isV at d4; clear hd; simp only [List.take, putL, Act.put, List.setIfInBounds_toArray, List.set_cons_zero, List.set_cons_succ]; unfold StepOK; go_simp; exact ⟨Below.refl _ _, isV_mk _ _⟩
            apply RunS.pure (by decide)
            · intro vs w hb hd; have d5 : isV _ (vs 5) w := hd 5 (by decide) (by kernel_rfl); unfold isV at d5; clear hd; have hc := RB.cell hb z1; simp only [List.take, putL, Act.put, List.setIfInBounds_toArray, List.set_cons_zero, List.set_cons_succ]; unfold StepOK; go_simp; exact ⟨Below.refl _ _, isV_mk _ _⟩
            apply RunS.pure (by decide)
            · intro vs w hb hd; have d6 : isV _ (vs 6) w := hd 6 (by decide) (by kernel_rfl); unfold isV at d6; clear hd; have hq := hw1; simp only [List.take, putL, Act.put, List.setIfInBounds_toArray, List.set_cons_zero, List.set_cons_succ]; unfold StepOK; go_simp; exact ⟨Below.refl _ _, isV_mk _ _⟩
            apply RunS.pure (by decide)
            · intro vs w hb hd; clear hd; simp only [List.take, putL, Act.put, List.setIfInBounds_toArray, List.set_cons_zero, List.set_cons_succ]; unfold StepOK; go_simp; exact ⟨Below.refl _ _, isV_mk _ _⟩
            apply RunS.pure (by decide)
            · intro vs w hb hd; have d8 : isV _ (vs 8) w := hd 8 (by decide) (by kernel_rfl); unfold isV at d8; clear hd; simp only [List.take, putL, Act.put, List.setIfInBounds_toArray, List.set_cons_zero, List.set_cons_succ]; unfold StepOK; go_simp; exact ⟨Below.refl _ _, isV_mk _ _⟩
            apply RunS.pure (by decide)
            · intro vs w hb hd; have d9 : isV _ (vs 9) w := hd 9 (by decide) (by kernel_rfl); unfold isV at d9; clear hd; have hc := RB.cell hb z2; simp only [List.take, putL, Act.put, List.setIfInBounds_toArray, List.set_cons_zero, List.set_cons_succ]; unfold StepOK; go_simp; exact ⟨Below.refl _ _, isV_mk _ _⟩
            apply RunS.pure (by decide)
            · intro vs w hb hd; have d10 : isV _ (vs 10) w := hd 10 (by decide) (by kernel_rfl); unfold isV at d10; clear hd; have hq := hw2; simp only [List.take, putL, Act.put, List.setIfInBounds_toArray, List.set_cons_zero, List.set_cons_succ]; unfold StepOK; go_simp; exact ⟨Below.refl _ _, isV_mk _ _⟩
            apply RunS.pure (by decide)
            · intro vs w hb hd; clear hd; simp only [List.take, putL, Act.put, List.setIfInBounds_toArray, List.set_cons_zero, List.set_cons_succ]; unfold StepOK; go_simp; exact ⟨Below.refl _ _, isV_mk _ _⟩
            apply RunS.pure (by decide)
            · intro vs w hb hd; have d12 : isV _ (vs 12) w := hd 12 (by decide) (by kernel_rfl); unfold isV at d12; clear hd; simp only [List.take, putL, Act.put, List.setIfInBounds_toArray, List.set_cons_zero, List.set_cons_succ]; unfold StepOK; go_simp; exact ⟨Below.refl _ _, isV_mk _ _⟩
            apply RunS.pure (by decide)
            · intro vs w hb hd; have d13 : isV _ (vs 13) w := hd 13 (by decide) (by kernel_rfl); unfold isV at d13; clear hd; have hc := RB.cell hb z3; simp only [List.take, putL, Act.put, List.setIfInBounds_toArray, List.set_cons_zero, List.set_cons_succ]; unfold StepOK; go_simp; exact ⟨Below.refl _ _, isV_mk _ _⟩
            apply RunS.pure (by decide)
            · intro vs w hb hd; have d14 : isV _ (vs 14) w := hd 14 (by decide) (by kernel_rfl); unfold isV at d14; clear hd; have hq := hw3; simp only [List.take, putL, Act.put, List.setIfInBounds_toArray, List.set_cons_zero, List.set_cons_succ]; unfold StepOK; go_simp; exact ⟨Below.refl _ _, isV_mk _ _⟩
            apply RunS.pure (by decide)
            · intro vs w hb hd; clear hd; simp only [List.take, putL, Act.put, List.setIfInBounds_toArray, List.set_cons_zero, List.set_cons_succ]; unfold StepOK; go_simp; exact ⟨Below.refl _ _, isV_mk _ _⟩
            apply RunS.pure (by decide)
            · intro vs w hb hd; clear hd; simp only [List.take, putL, Act.put, List.setIfInBounds_toArray, List.set_cons_zero, List.set_cons_succ]; unfold StepOK; go_simp; exact ⟨Below.refl _ _, isV_mk _ _⟩
            apply RunS.pure (by decide)
            · intro vs w hb hd; have d17 : isV _ (vs 17) w := hd 17 (by decide) (by kernel_rfl); unfold isV at d17; clear hd; simp only [List.take, putL, Act.put, List.setIfInBounds_toArray, List.set_cons_zero, List.set_cons_succ]; unfold StepOK; go_simp; exact ⟨Below.refl _ _, isV_mk _ _⟩
            apply RunS.pure (by decide)
            · intro vs w hb hd; have d18 : isV _ (vs 18) w := hd 18 (by decide) (by kernel_rfl); unfold isV at d18; clear hd; have hc := RB.cell hb z5; simp only [List.take, putL, Act.put, List.setIfInBounds_toArray, List.set_cons_zero, List.set_cons_succ]; unfold StepOK; go_simp; exact ⟨Below.refl _ _, isV_mk _ _⟩
            apply RunS.pure (by decide)
            · intro vs w hb hd; have d19 : isV _ (vs 19) w := hd 19 (by decide) (by kernel_rfl); unfold isV at d19; clear hd; have hq := hw5; simp only [List.take, putL, Act.put, List.setIfInBounds_toArray, List.set_cons_zero, List.set_cons_succ]; unfold StepOK; go_simp; exact ⟨Below.refl _ _, isV_mk _ _⟩
            apply RunS.pure (by decide)
            · intro vs w hb hd; clear hd; simp only [List.take, putL, Act.put, List.setIfInBounds_toArray, List.set_cons_zero, List.set_cons_succ]; unfold StepOK; go_simp; exact ⟨Below.refl _ _, isV_mk _ _⟩
            apply RunS.pure (by decide)
            · intro vs w hb hd; have d21 : isV _ (vs 21) w := hd 21 (by decide) (by kernel_rfl); unfold isV at d21; clear hd; have hcv := run_str (hS2.below (hb (Nat.le_refl _))); simp only [List.take, putL, Act.put, List.setIfInBounds_toArray, List.set_cons_zero, List.set_cons_succ]; unfold StepOK; go_simp; exact ⟨Below.refl _ _, isV_mk _ _⟩
            apply RunS.pure (by decide)
            · intro vs w hb hd; have d3 : isV _ (vs 3) w := hd 3 (by decide) (by kernel_rfl); unfold isV at d3; have d7 : isV _ (vs 7) w := hd 7 (by decide) (by kernel_rfl); unfold isV at d7; have d11 : isV _ (vs 11) w := hd 11 (by decide) (by kernel_rfl); unfold isV at d11; have d15 : isV _ (vs 15) w := hd 15 (by decide) (by kernel_rfl); unfold isV at d15; have d16 : isV _ (vs 16) w := hd 16 (by decide) (by kernel_rfl); unfold isV at d16; have d20 : isV _ (vs 20) w := hd 20 (by decide) (by kernel_rfl); unfold isV at d20; have d22 : isV _ (vs 22) w := hd 22 (by decide) (by kernel_rfl); unfold isV at d22; clear hd; simp only [List.take, putL, Act.put, List.setIfInBounds_toArray, List.set_cons_zero, List.set_cons_succ]; unfold StepOK; go_simp; exact ⟨Below.refl _ _, isV_mk _ _⟩
            refine RunS.eff (by decide) (Jnew w2.heap.size Ev.zero.cells) (Jnew_stable _ _) (by rfl) (by rfl) ?_ ?_
            · intro vs w hb hd hj; clear hd; have hj2 := hj; (try simp only [prevE, lastV, lastS, List.mem_cons, List.not_mem_nil, or_false, Nat.reduceEqDiff, Nat.reduceAdd, if_true, if_false, reduceIte, or_true, true_or, or_self] at hj2); clear hj; have hB := (hb (Nat.le_refl _)).size; clear hj2; simp only [List.take, putL, Act.put, List.setIfInBounds_toArray, List.set_cons_zero, List.set_cons_succ]; unfold StepE; go_simp; exact ⟨RB.below (below_alloc1 _ _), _, rfl, hB, Own.lower (new_own _ Ev.zero.cells 24 7 rfl (by unfold maxLen; omega)) hB⟩
            refine RunS.storeAt (by decide) 24 (Jnew w2.heap.size [.int .u8 (n0 : Int), .int .i64 (n1 : Int), .int .i64 (n2 : Int), .int .i64 (n3 : Int), .int .i64 a, .int .i64 (n5 : Int), .string (bstr q1)]) (Jnew_stable _ _) (by rfl) (by decide) (by kernel_rfl) ?_ ?_
            · intro vs w hb hd hj; have d0 : isV _ (vs 0) w := hd 0 (by decide) (by kernel_rfl); unfold isV at d0; have d1 : isV _ (vs 1) w := hd 1 (by decide) (by kernel_rfl); unfold isV at d1; have d2 : isV _ (vs 2) w := hd 2 (by decide) (by kernel_rfl); unfold isV at d2; have d3 : isV _ (vs 3) w := hd 3 (by decide) (by kernel_rfl); unfold isV at d3; have d4 : isV _ (vs 4) w := hd 4 (by decide) (by kernel_rfl); unfold isV at d4; have d5 : isV _ (vs 5) w := hd 5 (by decide) (by kernel_rfl); unfold isV at d5; have d6 : isV _ (vs 6) w := hd 6 (by decide) (by kernel_rfl); unfold isV at d6; have d7 : isV _ (vs 7) w := hd 7 (by decide) (by kernel_rfl); unfold isV at d7; have d8 : isV _ (vs 8) w := hd 8 (by decide) (by kernel_rfl); unfold isV at d8; have d9 : isV _ (vs 9) w := hd 9 (by decide) (by kernel_rfl); unfold isV at d9; have d10 : isV _ (vs 10) w := hd 10 (by decide) (by kernel_rfl); unfold isV at d10; have d11 : isV _ (vs 11) w := hd 11 (by decide) (by kernel_rfl); unfold isV at d11; have d12 : isV _ (vs 12) w := hd 12 (by decide) (by kernel_rfl); unfold isV at d12; have d13 : isV _ (vs 13) w := hd 13 (by decide) (by kernel_rfl); unfold isV at d13; have d14 : isV _ (vs 14) w := hd 14 (by decide) (by kernel_rfl); unfold isV at d14; have d15 : isV _ (vs 15) w := hd 15 (by decide) (by kernel_rfl); unfold isV at d15; have d16 : isV _ (vs 16) w := hd 16 (by decide) (by kernel_rfl); unfold isV at d16; have d17 : isV _ (vs 17) w := hd 17 (by decide) (by kernel_rfl); unfold isV at d17; have d18 : isV _ (vs 18) w := hd 18 (by decide) (by kernel_rfl); unfold isV at d18; have d19 : isV _ (vs 19) w := hd 19 (by decide) (by kernel_rfl); unfold isV at d19; have d20 : isV _ (vs 20) w := hd 20 (by decide) (by kernel_rfl); unfold isV at d20; have d21 : isV _ (vs 21) w := hd 21 (by decide) (by kernel_rfl); unfold isV at d21; have d22 : isV _ (vs 22) w := hd 22 (by decide) (by kernel_rfl); unfold isV at d22; have d23 : isV _ (vs 23) w := hd 23 (by decide) (by kernel_rfl); unfold isV at d23; clear hd; have hj2 := hj; (try simp only [prevE, lastV, lastS, List.mem_cons, List.not_mem_nil, or_false, Nat.reduceEqDiff, Nat.reduceAdd, if_true, if_false, reduceIte, or_true, true_or, or_self] at hj2); clear hj; obtain ⟨g, eg, hBg, ho⟩ := hj2; have y0 := World.ownsRow.cellAt ho 0 (by omega); have x0 := World.ownsRow.frozenAt ho 0; have y1 := World.ownsRow.cellAt ho 1 (by omega); have x1 := World.ownsRow.frozenAt ho 1; have y2 := World.ownsRow.cellAt ho 2 (by omega); have x2 := World.ownsRow.frozenAt ho 2; have y3 := World.ownsRow.cellAt ho 3 (by omega); have x3 := World.ownsRow.frozenAt ho 3; have y4 := World.ownsRow.cellAt ho 4 (by omega); have x4 := World.ownsRow.frozenAt ho 4; have y5 := World.ownsRow.cellAt ho 5 (by omega); have x5 := World.ownsRow.frozenAt ho 5; have y6 := World.ownsRow.cellAt ho 6 (by omega); have x6 := World.ownsRow.frozenAt ho 6; simp only [Ev.zero, Ev.cells, List.getElem?_cons_succ, List.getElem?_cons_zero] at y0 y1 y2 y3 y4 y5 y6; have st := stored7 ho (.int .u8 (n0 : Int)) (.int .i64 (n1 : Int)) (.int .i64 (n2 : Int)) (.int .i64 (n3 : Int)) (.int .i64 a) (.int .i64 (n5 : Int)) (.string (bstr q1)); clear ho; simp only [List.take, putL, Act.put, List.setIfInBounds_toArray, List.set_cons_zero, List.set_cons_succ]; unfold StepE; go_simp; first | exact ⟨RB.grown st.2 hBg, g, eg, hBg, st.1⟩ | exact ⟨RB.grown st.2 hBg, g, rfl, hBg, st.1⟩
            intro vs w1 hb hd hj
            try simp only [prevE, lastV, lastS, List.mem_cons, List.not_mem_nil, or_false, Nat.reduceEqDiff, Nat.reduceAdd, if_true, if_false, reduceIte, or_true, true_or, or_self] at hj
            have e0 : isV _ (vs 0) w1 := hd 0 (by decide)
            have e1 : isV _ (vs 1) w1 := hd 1 (by decide)
            have e2 : isV _ (vs 2) w1 := hd 2 (by decide)
            have e3 : isV _ (vs 3) w1 := hd 3 (by decide)
            have e4 : isV _ (vs 4) w1 := hd 4 (by decide)
            have e5 : isV _ (vs 5) w1 := hd 5 (by decide)
            have e6 : isV _ (vs 6) w1 := hd 6 (by decide)
            have e7 : isV _ (vs 7) w1 := hd 7 (by decide)
            have e8 : isV _ (vs 8) w1 := hd 8 (by decide)
            have e9 : isV _ (vs 9) w1 := hd 9 (by decide)
            have e10 : isV _ (vs 10) w1 := hd 10 (by decide)
            have e11 : isV _ (vs 11) w1 := hd 11 (by decide)
            have e12 : isV _ (vs 12) w1 := hd 12 (by decide)
            have e13 : isV _ (vs 13) w1 := hd 13 (by decide)
            have e14 : isV _ (vs 14) w1 := hd 14 (by decide)
            have e15 : isV _ (vs 15) w1 := hd 15 (by decide)
            have e16 : isV _ (vs 16) w1 := hd 16 (by decide)
            have e17 : isV _ (vs 17) w1 := hd 17 (by decide)
            have e18 : isV _ (vs 18) w1 := hd 18 (by decide)
            have e19 : isV _ (vs 19) w1 := hd 19 (by decide)
            have e20 : isV _ (vs 20) w1 := hd 20 (by decide)
            have e21 : isV _ (vs 21) w1 := hd 21 (by decide)
            have e22 : isV _ (vs 22) w1 := hd 22 (by decide)
            have e23 : isV _ (vs 23) w1 := hd 23 (by decide)
            clear hd
            unfold isV at e0 e1 e2 e3 e4 e5 e6 e7 e8 e9 e10 e11 e12 e13 e14 e15 e16 e17 e18 e19 e20 e21 e22 e23
            simp only [putL, Act.put, List.setIfInBounds_toArray, List.set_cons_zero, List.set_cons_succ, e0, e1, e2, e3, e4, e5, e6, e7, e8, e9, e10, e11, e12, e13, e14, e15, e16, e17, e18, e19, e20, e21, e22, e23]
            clear e0 e1 e2 e3 e4 e5 e6 e7 e8 e9 e10 e11 e12 e13 e14 e15 e16 e17 e18 e19 e20 e21 e22 e23
            --@end
            obtain ⟨g, eg, hBg, ho⟩ := hj
            try simp only [eg]
            have hbw := hb (Nat.le_refl _)
            have hr1 := hres.below hbw
            have hbW3 := hbW2.trans (hbw.mono hbW2.size)
            clear hb hres hbW2 hbw hS2 z0 z1 z2 z3 z5 hw0 hw1 hw2 hw3 hw5
            have g0 := World.ownsRow.cellAt ho 0 (by omega)
            have g1 := World.ownsRow.cellAt ho 1 (by omega)
            have g2 := World.ownsRow.cellAt ho 2 (by omega)
            have g3 := World.ownsRow.cellAt ho 3 (by omega)
            have g4 := World.ownsRow.cellAt ho 4 (by omega)
            have g5 := World.ownsRow.cellAt ho 5 (by omega)
            have g6 := World.ownsRow.cellAt ho 6 (by omega)
            simp only [List.getElem?_cons_succ, List.getElem?_cons_zero] at g0 g1 g2 g3 g4 g5 g6
            go_wp2_with fail
            refine (refRight_any ⟨n0, (n1 : Nat), (n2 : Nat), (n3 : Nat), a, (n5 : Nat), q1⟩ _ (by show n0 < 256; omega)).mono ?_; rintro x w3 ⟨rfl, hB3⟩
            have hr3 := hr1.below hB3
            have ho3 := ho.below hB3
            have hbW4 := hbW3.trans (hB3.mono hbW3.size)
            clear hr1 ho hbW3 hB3 g0 g1 g2 g3 g4 g5 g6
            have y0 := World.ownsRow.cellAt hr3 0 (by omega)
            have y1 := World.ownsRow.cellAt hr3 1 (by omega)
            have y2 := World.ownsRow.cellAt hr3 2 (by omega)
            have y3 := World.ownsRow.cellAt hr3 3 (by omega)
            have y4 := World.ownsRow.cellAt hr3 4 (by omega)
            have y5 := World.ownsRow.cellAt hr3 5 (by omega)
            have y6 := World.ownsRow.cellAt hr3 6 (by omega)
            have x0 := World.ownsRow.frozenAt hr3 0
            have x1 := World.ownsRow.frozenAt hr3 1
            have x2 := World.ownsRow.frozenAt hr3 2
            have x3 := World.ownsRow.frozenAt hr3 3
            have x4 := World.ownsRow.frozenAt hr3 4
            have x5 := World.ownsRow.frozenAt hr3 5
            have x6 := World.ownsRow.frozenAt hr3 6
            simp only [Ev.zero, Ev.cells, List.getElem?_cons_succ, List.getElem?_cons_zero] at y0 y1 y2 y3 y4 y5 y6
            have g0 := World.ownsRow.cellAt ho3 0 (by omega)
            have g1 := World.ownsRow.cellAt ho3 1 (by omega)
            have g2 := World.ownsRow.cellAt ho3 2 (by omega)
            have g3 := World.ownsRow.cellAt ho3 3 (by omega)
            have g4 := World.ownsRow.cellAt ho3 4 (by omega)
            have g5 := World.ownsRow.cellAt ho3 5 (by omega)
            have g6 := World.ownsRow.cellAt ho3 6 (by omega)
            simp only [List.getElem?_cons_succ, List.getElem?_cons_zero] at g0 g1 g2 g3 g4 g5 g6
            cases hz : rightB ⟨n0, (n1 : Nat), (n2 : Nat), (n3 : Nat), a, (n5 : Nat), q1⟩ with
            | false =>
              have hgo := Hg2.out
              rw [if_pos hz] at hgo
              subst hgo
              have st := stored7 hr3 (.int .u8 0) (.int .i64 0) (.int .i64 0) (.int .i64 0) (.int .i64 0) (.int .i64 0) (.string { data := #[] })
              clear Hg2 hz ho3 g0 g1 g2 g3 g4 g5 g6
              go_wp2_with fail
              refine bodyPost_ret (results_cell2 rfl _ _ _ ⟨w.heap.size, 0, none⟩ rfl _ (load_own st.1)) rfl ?_
              exact ⟨rfl, hbW4.grown st.2 hbW4.size (fun k hk => by cases hk; exact Nat.le_refl _)⟩
            | true =>
              have hgo := Hg2.out
              rw [if_neg (by rw [hz]; simp)] at hgo
              subst hgo
              have st := stored7 hr3 (.int .u8 (n0 : Int)) (.int .i64 (n1 : Int)) (.int .i64 (n2 : Int)) (.int .i64 (n3 : Int)) (.int .i64 a) (.int .i64 (n5 : Int)) (.string (bstr q1))
              clear Hg2 hz
              go_wp2_with fail
              refine bodyPost_ret (results_cell2 rfl _ _ _ ⟨w.heap.size, 0, none⟩ rfl _ (load_own st.1)) rfl ?_
              exact ⟨rfl, hbW4.grown st.2 hbW4.size (fun k hk => by cases hk; exact Nat.le_refl _)⟩
        · have h40 : 0 < q3 := by omega
          have hgo := Hgo.out
          rw [if_neg h3, if_pos h4] at hgo
          subst hgo
          clear Hgo
          go_wp2_with fail
          refine bodyPost_ret (results_cell2 rfl _ _ _ ⟨w.heap.size, 0, none⟩ rfl _ (load_own st.1)) rfl ?_
          exact ⟨rfl, hbW2.grown st.2 hbW2.size (fun k hk => by cases hk; exact Nat.le_refl _)⟩
end Go.Proofs.Ytphjmbhlokkdiaa
