import Derived.Test.YtemegkapmgcffaaPureRootB
import Derived.Test.YtemegkapmgcffaaRkM
import Derived.Test.YtemegkapmgcffaaRowsLf
import Derived.Test.YtemegkapmgcffaaPick
import Derived.Test.YtemegkapmgcffaaMWb
/- RootSwitch: the walk (printed by wip/gen/grtswitch.py). -/
namespace Go.Proofs.Ytemegkapmgcffaa
open Go.RowKit
set_option linter.unusedSimpArgs false
set_option linter.unusedVariables false

theorem grown_at {B g : Nat} {w w' : World} (h : w.grownBy w' (some g)) (hg : B ≤ g) (hB : B ≤ w.heap.size) : Below B w w' :=
  (Below.refl B w).grown h hB (fun k hk => by cases hk; exact hg)
def lfO (l : Lf) : Obj := .cells #[.slice l.rA l.rs.length l.rc, .int .i64 l.arm, .slice l.kA l.ks.length l.kc, .slice l.tA l.ts.length l.tc] 99
/-- the disk, the root that counts (in block q), and blocks beside them -/
def Sw (W w : World) (p q : Nat) (D : Dk) (K : List (Nat × Obj)) (now : Rt) (n : Nat) : Prop :=
  ∃ A c, DskM W w p D [⟨A, now.x.length, c, now.x⟩] ((q, rtO (n : Int) now.b A now.x.length c) :: K)
theorem Sw.bel {W w : World} {p q : Nat} {D : Dk} {K : List (Nat × Obj)} {now : Rt} {n : Nat} (h : Sw W w p q D K now n) : Below W.heap.size W w := by obtain ⟨A, c, h⟩ := h; exact h.bel
set_option maxRecDepth 100000 in
set_option maxHeartbeats 64000000 in
theorem switch6_any {W : World} {A : Option Addr} {m c0 : Nat} {es : List Lf} (s : Sl W 4 A m c0 (flatLf es)) (ok : ∀ e, e ∈ es → OkLf W e) (hn : m ≤ 9223372036854775807) :
    Calls Try.prog 18 #[.slice A m c0] W fun x w' => x = .returned (.bool true) ∧ Below W.heap.size W w' := by
  have hln := slL_len s
  have S := Lib.hid s
  have OK := Lib.hid ok
  have Hln := Lib.hid hln
  clear s ok hln
  have hnew : newD 1048576 = ⟨1048576, -1, false, mkS none none none⟩ := rfl
  go_enter Try.func18, Try.ntmps18
  go_wp2_with fail
  refine (new_dsk (Below.refl _ _) (by decide)).mono ?_; rintro x w0 ⟨p, rfl, h0⟩
  rw [hnew] at h0
  have hqs := h0.bel.size
  have h1 := ((DskM.of h0).old (ρ := ⟨none, 0, 0, []⟩) (Sl.nil _ _)).alloc (rtO 0 0 none 0 0)
  obtain ⟨q, hq⟩ : ∃ q, q = w0.heap.size := ⟨_, rfl⟩
  rw [← hq] at h1 hqs
  have H1 := Lib.hid (show Sw W (w0.alloc (rtO 0 0 none 0 0)) p q ⟨1048576, -1, false, mkS none none none⟩ [] rt0 0 from ⟨none, 0, h1⟩)
  have HQ := Lib.hid hqs
  clear h0 h1 hnew hqs
  go_wp2_with fail
  rw [← hq]
  clear hq
  go_loopw [6] (fun s6 wx => ∃ (i n : Nat) (now ahead : Rt) (a b c : Slot), i ≤ m ∧ i ≤ 6 ∧ n ≤ 8 * i ∧ s6 = .int .i64 (i : Int) ∧ Hid (St n now ahead b c ∧ now.x.length ≤ 150 ∧ ahead.x.length ≤ 150 ∧ slen a ≤ 250) ∧ Hid (Sw W wx p q ⟨1048576, -1, false, mkS a b c⟩ [] now n)) (fun iv _ => 6 - (intOf iv).toNat)
  case atStart => exact ⟨0, 0, rt0, rt0, none, none, none, by omega, by omega, by omega, rfl, Lib.hid ⟨⟨rfl, .inl ⟨rfl, rfl, rfl, rfl⟩⟩, by decide, by decide, by decide⟩, H1⟩
  case round =>
    obtain ⟨i, n, now, ahead, a, b, c, hi, hi6, hn8, rfl, HS, HI⟩ := hrel
    clear H1
    by_cases g1 : (i : Int) < (m : Int)
    · by_cases g2 : (i : Int) < 6
      · obtain ⟨d, hd⟩ := get_some es i (by rw [Hln.out]; omega)
        obtain ⟨NA, nc, hM⟩ := HI.out
        have hs := S.out.below hM.bel
        obtain ⟨ad, rfl⟩ := slL_addr hs hd
        obtain ⟨y0, y1, y2, y3⟩ := slL_four hs hd
        have hin : (0 : Int) ≤ (i : Int) ∧ (i : Int) < (m : Int) := by omega
        have Hd := Lib.hid (OK.out d (List.mem_of_getElem? hd))
        have h1 := hM.alloc (lfO d)
        have hql := heap_lt (hM.held (List.mem_cons_self ..))
        have HIb := Lib.hid hM.bel
        clear hs hd hM
        go_upto_region 9 with fail
        obtain ⟨lb, hlb⟩ : ∃ lb, lb = wr.heap.size := ⟨_, rfl⟩
        obtain ⟨w1, hw1⟩ : ∃ w1, w1 = wr.alloc (lfO d) := ⟨_, rfl⟩
        rw [← hlb, ← hw1] at h1
        have hT1 : wr.alloc (.cells #[.slice d.rA d.rs.length d.rc, .int .i64 d.arm, .slice d.kA d.ks.length d.kc, .slice d.tA d.ts.length d.tc] 99) = w1 := hw1.symm
        rw [hT1, ← hlb]
        have hql2 : q < lb := by rw [hlb]; exact hql
        have hl1 : lb < w1.heap.size := by rw [hw1, hlb]; simp
        have x1 := h1.cellK (q := lb) (j := 1) (List.mem_cons_self ..) rfl
        clear hw1 hT1 hlb hql y0 y1 y2 y3 hin
        go_wp2_with fail
        refine (pick_any d.arm 40 _ (by decide) (by decide)).mono ?_; rintro x w2 ⟨⟨u, hu, rfl⟩, rfl⟩
        have harm : armD ⟨1048576, -1, false, mkS a b c⟩ (u : Int) = ⟨1048576, max 0 (u : Int), false, mkS a b c⟩ := by unfold armD; rw [if_neg (by simp)]
        obtain ⟨fuse0, hfu⟩ : ∃ f, f = max 0 (u : Int) := ⟨_, rfl⟩
        rw [← hfu] at harm
        have hca := arm_m h1 (by omega) harm
        clear x1 harm hfu
        go_wp2_with fail
        refine hca.mono ?_; rintro x w2 ⟨rfl, h2⟩
        have h3 := h2.alloc (rtO 0 0 none 0 0)
        clear hca
        go_upto_region 11 with fail
        obtain ⟨tb, htb⟩ : ∃ tb, tb = w2.heap.size := ⟨_, rfl⟩
        obtain ⟨w3, hw3⟩ : ∃ w3, w3 = w2.alloc (rtO 0 0 none 0 0) := ⟨_, rfl⟩
        rw [← htb, ← hw3] at h3
        have hT3 : w2.alloc (.cells #[.int .i64 0, .int .i64 0, .slice none 0 0] 24) = w3 := hw3.symm
        rw [hT3, ← htb]
        have hlt2 : lb < tb := by rw [htb]; exact heap_lt (h2.held (q := lb) (List.mem_cons_self ..))
        have H3 := Lib.hid (show Sw W w3 p q ⟨1048576, fuse0, false, mkS a b c⟩ [(tb, rtO 0 0 none 0 0), (lb, lfO d)] now n from ⟨NA, nc, h3.subK (fun κ hk => by simp only [List.mem_cons, List.not_mem_nil, or_false] at hk; rcases hk with h | h | h <;> simp [h])⟩)
        clear h1 h2 h3 hw3 hT3 htb hl1
        go_wp2_with fail
        go_loopw [9] (fun s9 wx => ∃ (k n : Nat) (now ahead : Rt) (a b c : Slot) (fuse : Int) (dark : Bool) (tr tbt : Int) (TA : Option Addr) (tn tc : Nat), k ≤ d.rs.length ∧ k ≤ 8 ∧ n ≤ 8 * i + k ∧ s9 = .int .i64 (k : Int) ∧ Hid (St n now ahead b c ∧ now.x.length ≤ 150 ∧ ahead.x.length ≤ 150 ∧ slen a ≤ 250) ∧ Hid (Sw W wx p q ⟨1048576, fuse, dark, mkS a b c⟩ [(tb, rtO tr tbt TA tn tc), (lb, lfO d)] now n)) (fun iv _ => 8 - (intOf iv).toNat)
        case atStart => exact ⟨0, n, now, ahead, a, b, c, fuse0, false, 0, 0, none, 0, 0, by omega, by omega, by omega, rfl, HS, H3⟩
        case round =>
          clear HS HI H3 hn8
          obtain ⟨k, n, now, ahead, a, b, c, fuse, dark, tr, tbt, TA, tn, tc, hk, hk8, hnk, rfl, HS, HI⟩ := hrel
          obtain ⟨NA, nc, hM⟩ := HI.out
          have HM := Lib.hid hM
          have x0 := hM.cellK (q := lb) (j := 0) (List.mem_cons_of_mem _ (List.mem_cons_of_mem _ (List.mem_cons_self ..))) rfl
          by_cases j1 : (k : Int) < (d.rs.length : Int)
          · by_cases j2 : (k : Int) < 8
            · obtain ⟨e, he⟩ := get_some d.rs k (by omega)
              have hRs := Hd.out.rs.1.below hM.bel
              obtain ⟨ae, hae⟩ := slR_addr hRs he
              have Hae := Lib.hid hae
              have He := Lib.hid (Hd.out.rs.2.2 e (List.mem_of_getElem? he))
              have Hhe := Lib.hid he
              rw [hae] at x0 hRs
              obtain ⟨y0, y1, y2⟩ := slR_three hRs he
              have hin : (0 : Int) ≤ (k : Int) ∧ (k : Int) < (d.rs.length : Int) := by omega
              clear hM hRs he hae
              by_cases g3 : (150 : Int) < (e.x.length : Int)
              · go_wp2_with fail
                go_roundw
                case rel => exact ⟨k + 1, n, now, ahead, a, b, c, fuse, dark, tr, tbt, TA, tn, tc, by omega, by omega, by omega, by go_num, HS, HI⟩
                case measure => simp [intOf]; omega
              · obtain ⟨wv, hwv⟩ : ∃ wv, wv = wr := ⟨_, rfl⟩
                subst hwv
                have hws : IntKind.i64.wrap ((n : Int) + 1) = (n : Int) + 1 := by rw [IntKind.wrap_i64]; omega
                have HWS := Lib.hid hws
                have HN0 := Lib.hid (HM.out.cellK (q := q) (j := 0) (List.mem_cons_self ..) rfl)
                have HX0 := Lib.hid x0
                have HY1 := Lib.hid y1
                have HY2 := Lib.hid y2
                have HIN := Lib.hid hin
                go_upto_region 15 with fail
                clear x0 y0 y1 y2 hws hin
                --@region 18 15 rsw15.spec
                refine wp_region_runS [16, 17] (fun k => if k = 17 then 16 else k) (fun _ _ => True) (by kernel_rfl) (by kernel_rfl) (by kernel_rfl) (R := Rq wv.heap.size) (fun _ _ h => Rq.below h) (fun _ _ _ => Rq.trans) (fun _ _ _ _ _ => trivial) trivial ?_
                apply RunS.pure (by decide)
                · intro vs w hb hd; clear hd; simp only [List.take, putL, Act.put, List.setIfInBounds_toArray, List.set_cons_zero, List.set_cons_succ]; unfold StepOK; go_simp; exact ⟨Below.refl _ _, isV_mk _ _⟩
                apply RunS.pure (by decide)
                · intro vs w hb hd; have d0 : isV _ (vs 0) w := hd 0 (by decide) (by kernel_rfl); unfold isV at d0; clear hd; have hx1 := cellB (Rq.bel hb) HN0.out; simp only [List.take, putL, Act.put, List.setIfInBounds_toArray, List.set_cons_zero, List.set_cons_succ]; unfold StepOK; go_simp; exact ⟨Below.refl _ _, isV_mk _ _⟩
                apply RunS.pure (by decide)
                · intro vs w hb hd; have d1 : isV _ (vs 1) w := hd 1 (by decide) (by kernel_rfl); unfold isV at d1; clear hd; have hw := HWS.out; simp only [List.take, putL, Act.put, List.setIfInBounds_toArray, List.set_cons_zero, List.set_cons_succ]; unfold StepOK; go_simp; exact ⟨Below.refl _ _, isV_mk _ _⟩
                apply RunS.pure (by decide)
                · intro vs w hb hd; clear hd; simp only [List.take, putL, Act.put, List.setIfInBounds_toArray, List.set_cons_zero, List.set_cons_succ]; unfold StepOK; go_simp; exact ⟨Below.refl _ _, isV_mk _ _⟩
                apply RunS.pure (by decide)
                · intro vs w hb hd; have d3 : isV _ (vs 3) w := hd 3 (by decide) (by kernel_rfl); unfold isV at d3; clear hd; have hx1 := cellB (Rq.bel hb) HX0.out; simp only [List.take, putL, Act.put, List.setIfInBounds_toArray, List.set_cons_zero, List.set_cons_succ]; unfold StepOK; go_simp; exact ⟨Below.refl _ _, isV_mk _ _⟩
                apply RunS.pure (by decide)
                · intro vs w hb hd; clear hd; simp only [List.take, putL, Act.put, List.setIfInBounds_toArray, List.set_cons_zero, List.set_cons_succ]; unfold StepOK; go_simp; exact ⟨Below.refl _ _, isV_mk _ _⟩
                apply RunS.pure (by decide)
                · intro vs w hb hd; have d4 : isV _ (vs 4) w := hd 4 (by decide) (by kernel_rfl); unfold isV at d4; have d5 : isV _ (vs 5) w := hd 5 (by decide) (by kernel_rfl); unfold isV at d5; clear hd; have hin := HIN.out; simp only [List.take, putL, Act.put, List.setIfInBounds_toArray, List.set_cons_zero, List.set_cons_succ]; unfold StepOK; go_simp; exact ⟨Below.refl _ _, isV_mk _ _⟩
                apply RunS.pure (by decide)
                · intro vs w hb hd; have d6 : isV _ (vs 6) w := hd 6 (by decide) (by kernel_rfl); unfold isV at d6; clear hd; simp only [List.take, putL, Act.put, List.setIfInBounds_toArray, List.set_cons_zero, List.set_cons_succ]; unfold StepOK; go_simp; exact ⟨Below.refl _ _, isV_mk _ _⟩
                apply RunS.pure (by decide)
                · intro vs w hb hd; have d7 : isV _ (vs 7) w := hd 7 (by decide) (by kernel_rfl); unfold isV at d7; clear hd; have hx1 := cellB (Rq.bel hb) HY1.out; simp only [List.take, putL, Act.put, List.setIfInBounds_toArray, List.set_cons_zero, List.set_cons_succ]; unfold StepOK; go_simp; exact ⟨Below.refl _ _, isV_mk _ _⟩
                apply RunS.pure (by decide)
                · intro vs w hb hd; clear hd; simp only [List.take, putL, Act.put, List.setIfInBounds_toArray, List.set_cons_zero, List.set_cons_succ]; unfold StepOK; go_simp; exact ⟨Below.refl _ _, isV_mk _ _⟩
                apply RunS.pure (by decide)
                · intro vs w hb hd; have d9 : isV _ (vs 9) w := hd 9 (by decide) (by kernel_rfl); unfold isV at d9; clear hd; have hx1 := cellB (Rq.bel hb) HX0.out; simp only [List.take, putL, Act.put, List.setIfInBounds_toArray, List.set_cons_zero, List.set_cons_succ]; unfold StepOK; go_simp; exact ⟨Below.refl _ _, isV_mk _ _⟩
                apply RunS.pure (by decide)
                · intro vs w hb hd; clear hd; simp only [List.take, putL, Act.put, List.setIfInBounds_toArray, List.set_cons_zero, List.set_cons_succ]; unfold StepOK; go_simp; exact ⟨Below.refl _ _, isV_mk _ _⟩
                apply RunS.pure (by decide)
                · intro vs w hb hd; have d10 : isV _ (vs 10) w := hd 10 (by decide) (by kernel_rfl); unfold isV at d10; have d11 : isV _ (vs 11) w := hd 11 (by decide) (by kernel_rfl); unfold isV at d11; clear hd; have hin := HIN.out; simp only [List.take, putL, Act.put, List.setIfInBounds_toArray, List.set_cons_zero, List.set_cons_succ]; unfold StepOK; go_simp; exact ⟨Below.refl _ _, isV_mk _ _⟩
                apply RunS.pure (by decide)
                · intro vs w hb hd; have d12 : isV _ (vs 12) w := hd 12 (by decide) (by kernel_rfl); unfold isV at d12; clear hd; simp only [List.take, putL, Act.put, List.setIfInBounds_toArray, List.set_cons_zero, List.set_cons_succ]; unfold StepOK; go_simp; exact ⟨Below.refl _ _, isV_mk _ _⟩
                apply RunS.pure (by decide)
                · intro vs w hb hd; have d13 : isV _ (vs 13) w := hd 13 (by decide) (by kernel_rfl); unfold isV at d13; clear hd; have hx1 := cellB (Rq.bel hb) HY2.out; simp only [List.take, putL, Act.put, List.setIfInBounds_toArray, List.set_cons_zero, List.set_cons_succ]; unfold StepOK; go_simp; exact ⟨Below.refl _ _, isV_mk _ _⟩
                apply RunS.pure (by decide)
                · intro vs w hb hd; have d2 : isV _ (vs 2) w := hd 2 (by decide) (by kernel_rfl); unfold isV at d2; have d8 : isV _ (vs 8) w := hd 8 (by decide) (by kernel_rfl); unfold isV at d8; have d14 : isV _ (vs 14) w := hd 14 (by decide) (by kernel_rfl); unfold isV at d14; clear hd; simp only [List.take, putL, Act.put, List.setIfInBounds_toArray, List.set_cons_zero, List.set_cons_succ]; unfold StepOK; go_simp; exact ⟨Below.refl _ _, isV_mk _ _⟩
                refine RunS.eff (by decide) (JRt wv.heap.size 0 0 none 0 0) (JRt_stable _ _ _ _ _ _) (by rfl) (by rfl) ?_ ?_
                · intro vs w hb hd hj; clear hd; have hj2 := hj; (try simp only [prevE, lastV, lastS, List.mem_cons, List.not_mem_nil, or_false, Nat.reduceEqDiff, Nat.reduceAdd, if_true, if_false, reduceIte, or_true, true_or, or_self] at hj2); clear hj; have hB := (Rq.bel hb).size; clear hj2; simp only [List.take, putL, Act.put, List.setIfInBounds_toArray, List.set_cons_zero, List.set_cons_succ]; unfold StepE; go_simp; exact ⟨Rq.below (below_alloc1 _ _), _, rfl, hB, Own.lower (new_own _ [.int .i64 0, .int .i64 0, .slice none 0 0] 24 3 rfl (by unfold maxLen; omega)) hB⟩
                refine RunS.storeAt (by decide) 16 (JRt wv.heap.size ((n : Int) + 1) e.b e.A e.x.length e.c) (JRt_stable _ _ _ _ _ _) (by rfl) (by decide) (by kernel_rfl) ?_ ?_
                · intro vs w hb hd hj; have d0 : isV _ (vs 0) w := hd 0 (by decide) (by kernel_rfl); unfold isV at d0; have d1 : isV _ (vs 1) w := hd 1 (by decide) (by kernel_rfl); unfold isV at d1; have d2 : isV _ (vs 2) w := hd 2 (by decide) (by kernel_rfl); unfold isV at d2; have d3 : isV _ (vs 3) w := hd 3 (by decide) (by kernel_rfl); unfold isV at d3; have d4 : isV _ (vs 4) w := hd 4 (by decide) (by kernel_rfl); unfold isV at d4; have d5 : isV _ (vs 5) w := hd 5 (by decide) (by kernel_rfl); unfold isV at d5; have d6 : isV _ (vs 6) w := hd 6 (by decide) (by kernel_rfl); unfold isV at d6; have d7 : isV _ (vs 7) w := hd 7 (by decide) (by kernel_rfl); unfold isV at d7; have d8 : isV _ (vs 8) w := hd 8 (by decide) (by kernel_rfl); unfold isV at d8; have d9 : isV _ (vs 9) w := hd 9 (by decide) (by kernel_rfl); unfold isV at d9; have d10 : isV _ (vs 10) w := hd 10 (by decide) (by kernel_rfl); unfold isV at d10; have d11 : isV _ (vs 11) w := hd 11 (by decide) (by kernel_rfl); unfold isV at d11; have d12 : isV _ (vs 12) w := hd 12 (by decide) (by kernel_rfl); unfold isV at d12; have d13 : isV _ (vs 13) w := hd 13 (by decide) (by kernel_rfl); unfold isV at d13; have d14 : isV _ (vs 14) w := hd 14 (by decide) (by kernel_rfl); unfold isV at d14; have d15 : isV _ (vs 15) w := hd 15 (by decide) (by kernel_rfl); unfold isV at d15; clear hd; have hj2 := hj; (try simp only [prevE, lastV, lastS, List.mem_cons, List.not_mem_nil, or_false, Nat.reduceEqDiff, Nat.reduceAdd, if_true, if_false, reduceIte, or_true, true_or, or_self] at hj2); clear hj; obtain ⟨g, eg, hBg, ho⟩ := hj2; have y0 := World.ownsRow.cellAt ho 0 (by omega); have y1 := World.ownsRow.cellAt ho 1 (by omega); have y2 := World.ownsRow.cellAt ho 2 (by omega); simp only [List.getElem?_cons_zero, List.getElem?_cons_succ] at y0 y1 y2; have x0 := World.ownsRow.frozenAt ho 0; have x1 := World.ownsRow.frozenAt ho 1; have x2 := World.ownsRow.frozenAt ho 2; have st := stored3R ho (.int .i64 ((n : Int) + 1)) (.int .i64 e.b) (.slice e.A e.x.length e.c); have HST := Lib.hid st; have hRR : Rq wv.heap.size w (((w.setCell ⟨g, 0, none⟩ (.int .i64 ((n : Int) + 1))).setCell ⟨g, 1, none⟩ (.int .i64 e.b)).setCell ⟨g, 2, none⟩ (.slice e.A e.x.length e.c)) := (fun hB => grown_at st.2 hBg hB); have HRR := Lib.hid hRR; clear ho st hRR; simp only [List.take, putL, Act.put, List.setIfInBounds_toArray, List.set_cons_zero, List.set_cons_succ]; unfold StepE; go_simp; first | exact ⟨HRR.out, g, eg, hBg, HST.out.1⟩ | exact ⟨HRR.out, g, rfl, hBg, HST.out.1⟩
                intro vs w1 hb hd hj
                try simp only [prevE, lastV, lastS, List.mem_cons, List.not_mem_nil, or_false, Nat.reduceEqDiff, Nat.reduceAdd, if_true, if_false, reduceIte, or_true, true_or, or_self] at hj
                have e0 : isV _ (vs 0) w1 := hd 0 (by decide)
                have e1 : isV _ (vs 1) w1 := hd 1 (by decide)
                have e2 : isV _ (vs 2) w1 := hd 2 (by decide)
                have e3 : isV _ (vs 3) w1 := hd 3 (by decide)
                have e4 : isV _ (vs 4) w1 := hd 4 (by decide)
                have e5 : isV _ (vs 5) w1 := hd 5 (by decide)
                have e6 : isV _ (vs 6) w1 := hd 6 (by decide)
                have e7 : isV _ (vs 7) w1 := hd 7 (by decide)
                have e8 : isV _ (vs 8) w1 := hd 8 (by decide)
                have e9 : isV _ (vs 9) w1 := hd 9 (by decide)
                have e10 : isV _ (vs 10) w1 := hd 10 (by decide)
                have e11 : isV _ (vs 11) w1 := hd 11 (by decide)
                have e12 : isV _ (vs 12) w1 := hd 12 (by decide)
                have e13 : isV _ (vs 13) w1 := hd 13 (by decide)
                have e14 : isV _ (vs 14) w1 := hd 14 (by decide)
                have e15 : isV _ (vs 15) w1 := hd 15 (by decide)
                clear hd
                unfold isV at e0 e1 e2 e3 e4 e5 e6 e7 e8 e9 e10 e11 e12 e13 e14 e15
                simp only [putL, Act.put, List.setIfInBounds_toArray, List.set_cons_zero, List.set_cons_succ, e0, e1, e2, e3, e4, e5, e6, e7, e8, e9, e10, e11, e12, e13, e14, e15]
                clear e0 e1 e2 e3 e4 e5 e6 e7 e8 e9 e10 e11 e12 e13 e14 e15
                --@end
                obtain ⟨g, eg, hBg, oN⟩ := hj
                simp only [Nat.reduceAdd, eg]
                have hbw := Rq.bel hb
                rename_i w1
                have hgo : w1.heap[g]? = some (rtO ((n : Int) + 1) e.b e.A e.x.length e.c) := held_of_own oN
                have h1 := (HM.out.addK hbw hBg hgo).old (ρ := ⟨e.A, e.x.length, e.c, e.x⟩) He.out.x.1
                have hgq : q ≠ g ∧ lb < g ∧ tb < g := by
                  have k1 := heap_lt (HM.out.held (q := q) (List.mem_cons_self ..))
                  have k2 := heap_lt (HM.out.held (q := tb) (List.mem_cons_of_mem _ (List.mem_cons_self ..)))
                  omega
                have HM1 := Lib.hid h1
                have HGQ := Lib.hid hgq
                clear hgo hb hbw oN h1 HM HN0 HX0 HY1 HY2 HIN HWS hgq eg
                have x0 := HM1.out.cellK (q := lb) (j := 0) (List.mem_cons_of_mem _ (List.mem_cons_of_mem _ (List.mem_cons_of_mem _ (List.mem_cons_self ..)))) rfl
                have hRs := Hd.out.rs.1.below HM1.out.bel
                rw [Hae.out] at x0 hRs
                obtain ⟨y0, y1, y2⟩ := slR_three hRs Hhe.out
                have hin : (0 : Int) ≤ (k : Int) ∧ (k : Int) < (d.rs.length : Int) := by omega
                clear hRs
                have key : ∃ D' r e', writeF ⟨1048576, fuse, dark, mkS a b c⟩ e.b e.x = (D', r, e') := ⟨_, _, _, rfl⟩
                cases dark with
                | true =>
                  have hwd : writeF ⟨1048576, fuse, true, mkS a b c⟩ e.b e.x = (⟨1048576, fuse, true, mkS a b c⟩, rt0, 15) := write_dark rfl
                  simp only [rt0] at hwd
                  have hc := rwrite_m HM1.out e.s e.b (List.mem_cons_self ..) (by show e.x.length ≤ _; omega) hwd
                  clear hwd key
                  go_wp2_with fail
                  refine hc.mono ?_; rintro x w2 ⟨RA, rc, rfl, h2⟩
                  clear hc x0 y0 y1 y2
                  have r0 := box_cellsR w2 [.int .i64 0, .int .i64 0, .slice RA 0 rc] 24 0 _ rfl
                  have r1 := box_cellsR w2 [.int .i64 0, .int .i64 0, .slice RA 0 rc] 24 1 _ rfl
                  have r2 := box_cellsR w2 [.int .i64 0, .int .i64 0, .slice RA 0 rc] 24 2 _ rfl
                  have rb := below_alloc1 w2 (.cells #[.int .i64 0, .int .i64 0, .slice RA 0 rc] 24)
                  have h3 := h2.below rb
                  go_upto_region 17 with fail
                  obtain ⟨w3, hw3⟩ : ∃ w3, w3 = w2.alloc (.cells #[.int .i64 0, .int .i64 0, .slice RA 0 rc] 24) := ⟨_, rfl⟩
                  have hTw3 : (w2.alloc (.cells [Value.int .i64 0, .int .i64 0, .slice RA 0 rc].toArray 24)) = w3 := hw3.symm
                  rw [hTw3] at r0 r1 r2
                  rw [← hw3] at rb h3 ⊢
                  clear hTw3 hw3
                  clear h2 rb
                  have hS2 := (h3.sub (L' := [⟨NA, now.x.length, nc, now.x⟩]) (fun ρ hr => by simp only [List.mem_cons, List.not_mem_nil, or_false] at hr; simp [hr]))
                  have t0 := hS2.cellK (q := tb) (j := 0) (List.mem_cons_of_mem _ (List.mem_cons_of_mem _ (List.mem_cons_self ..))) rfl
                  have g0 := hS2.cellK (q := g) (j := 0) (List.mem_cons_self ..) rfl
                  have g1 := hS2.cellK (q := g) (j := 1) (List.mem_cons_self ..) rfl
                  have g2 := hS2.cellK (q := g) (j := 2) (List.mem_cons_self ..) rfl
                  have H3 := Lib.hid (hS2.subK (K' := [(tb, rtO tr tbt TA tn tc), (q, rtO (n : Int) now.b NA now.x.length nc), (lb, lfO d)]) (fun κ hk => by simp only [List.mem_cons, List.not_mem_nil, or_false] at hk; rcases hk with h | h | h <;> simp [h]))
                  clear hS2 h3 r0 r1 r2 hin
                  by_cases htr : tr = 0
                  · subst htr
                    have ot := rtO_own (base := W.heap.size) (H3.out.held (List.mem_cons_self ..)) (by have := HQ.out; omega)
                    have f0 := World.ownsRow.frozenAt ot 0
                    have f1 := World.ownsRow.frozenAt ot 1
                    have f2 := World.ownsRow.frozenAt ot 2
                    have k1 := World.ownsRow.cellAt ot 1 (by omega)
                    have k2 := World.ownsRow.cellAt ot 2 (by omega)
                    simp only [List.getElem?_cons_zero, List.getElem?_cons_succ] at k1 k2
                    have Hst := Lib.hid (stored3R ot (.int .i64 ((n : Int) + 1)) (.int .i64 e.b) (.slice e.A e.x.length e.c))
                    clear ot
                    go_wp2_with fail
                    have h9 := H3.out.store (by have := HQ.out; omega) (fun κ hk => by simp only [List.mem_cons, List.not_mem_nil, or_false] at hk; rcases hk with h | h <;> simp [h] <;> omega) Hst.out.2 Hst.out.1
                    have HN := Lib.hid (show Sw W _ p q ⟨1048576, fuse, true, mkS a b c⟩ [(tb, rtO ((n : Int) + 1) e.b e.A e.x.length e.c), (lb, lfO d)] now n from ⟨NA, nc, h9.subK (fun κ hk => by simp only [List.mem_cons, List.not_mem_nil, or_false] at hk; rcases hk with h | h | h <;> simp [h])⟩)
                    clear h9
                    go_roundw
                    case rel => exact ⟨k + 1, n, now, ahead, a, b, c, fuse, true, (n : Int) + 1, e.b, e.A, e.x.length, e.c, by omega, by omega, by omega, by go_num, Lib.hid ⟨HS.out.1, HS.out.2.1, HS.out.2.2.1, HS.out.2.2.2⟩, HN⟩
                    case measure => simp [intOf]; omega
                  · have htr2 : (tr == 0) = false := by simpa using htr
                    have HN := Lib.hid (show Sw W w3 p q ⟨1048576, fuse, true, mkS a b c⟩ [(tb, rtO tr tbt TA tn tc), (lb, lfO d)] now n from ⟨NA, nc, H3.out.subK (fun κ hk => by simp only [List.mem_cons, List.not_mem_nil, or_false] at hk; rcases hk with h | h | h <;> simp [h])⟩)
                    clear H3 g0 g1 g2
                    go_wp2_with fail
                    go_roundw
                    case rel => exact ⟨k + 1, n, now, ahead, a, b, c, fuse, true, tr, tbt, TA, tn, tc, by omega, by omega, by omega, by go_num, Lib.hid ⟨HS.out.1, HS.out.2.1, HS.out.2.2.1, HS.out.2.2.2⟩, HN⟩
                    case measure => simp [intOf]; omega
                | false =>
                  rcases HS.out.1.stepS HS.out.2.1 HS.out.2.2.1 HS.out.2.2.2 (fuse := fuse) e.b e.x (by omega) with hwd | ⟨a', ha', hwd⟩ | ⟨f', b', c', hwd, hst⟩
                  · simp only [rt0] at hwd
                    have hc := rwrite_m HM1.out e.s e.b (List.mem_cons_self ..) (by show e.x.length ≤ _; omega) hwd
                    clear hwd key
                    go_wp2_with fail
                    refine hc.mono ?_; rintro x w2 ⟨RA, rc, rfl, h2⟩
                    clear hc x0 y0 y1 y2
                    have r0 := box_cellsR w2 [.int .i64 0, .int .i64 0, .slice RA 0 rc] 24 0 _ rfl
                    have r1 := box_cellsR w2 [.int .i64 0, .int .i64 0, .slice RA 0 rc] 24 1 _ rfl
                    have r2 := box_cellsR w2 [.int .i64 0, .int .i64 0, .slice RA 0 rc] 24 2 _ rfl
                    have rb := below_alloc1 w2 (.cells #[.int .i64 0, .int .i64 0, .slice RA 0 rc] 24)
                    have h3 := h2.below rb
                    go_upto_region 17 with fail
                    obtain ⟨w3, hw3⟩ : ∃ w3, w3 = w2.alloc (.cells #[.int .i64 0, .int .i64 0, .slice RA 0 rc] 24) := ⟨_, rfl⟩
                    have hTw3 : (w2.alloc (.cells [Value.int .i64 0, .int .i64 0, .slice RA 0 rc].toArray 24)) = w3 := hw3.symm
                    rw [hTw3] at r0 r1 r2
                    rw [← hw3] at rb h3 ⊢
                    clear hTw3 hw3
                    clear h2 rb
                    have HN := Lib.hid (show Sw W w3 p q ⟨1048576, fuse, false, mkS a b c⟩ [(tb, rtO tr tbt TA tn tc), (lb, lfO d)] now n from ⟨NA, nc, (h3.sub (L' := [⟨NA, now.x.length, nc, now.x⟩]) (fun ρ hr => by simp only [List.mem_cons, List.not_mem_nil, or_false] at hr; simp [hr])).subK (fun κ hk => by simp only [List.mem_cons, List.not_mem_nil, or_false] at hk; rcases hk with h | h | h <;> simp [h])⟩)
                    clear h3 r0 r1 r2 hin
                    go_wp2_with fail
                    go_roundw
                    case rel => exact ⟨k + 1, n, now, ahead, a, b, c, fuse, false, tr, tbt, TA, tn, tc, by omega, by omega, by omega, by go_num, HS, HN⟩
                    case measure => simp [intOf]; omega
                  · simp only [rt0] at hwd
                    have hc := rwrite_m HM1.out e.s e.b (List.mem_cons_self ..) (by show e.x.length ≤ _; omega) hwd
                    clear hwd key
                    go_wp2_with fail
                    refine hc.mono ?_; rintro x w2 ⟨RA, rc, rfl, h2⟩
                    clear hc x0 y0 y1 y2
                    have r0 := box_cellsR w2 [.int .i64 0, .int .i64 0, .slice RA 0 rc] 24 0 _ rfl
                    have r1 := box_cellsR w2 [.int .i64 0, .int .i64 0, .slice RA 0 rc] 24 1 _ rfl
                    have r2 := box_cellsR w2 [.int .i64 0, .int .i64 0, .slice RA 0 rc] 24 2 _ rfl
                    have rb := below_alloc1 w2 (.cells #[.int .i64 0, .int .i64 0, .slice RA 0 rc] 24)
                    have h3 := h2.below rb
                    go_upto_region 17 with fail
                    obtain ⟨w3, hw3⟩ : ∃ w3, w3 = w2.alloc (.cells #[.int .i64 0, .int .i64 0, .slice RA 0 rc] 24) := ⟨_, rfl⟩
                    have hTw3 : (w2.alloc (.cells [Value.int .i64 0, .int .i64 0, .slice RA 0 rc].toArray 24)) = w3 := hw3.symm
                    rw [hTw3] at r0 r1 r2
                    rw [← hw3] at rb h3 ⊢
                    clear hTw3 hw3
                    clear h2 rb
                    have hS2 := (h3.sub (L' := [⟨NA, now.x.length, nc, now.x⟩]) (fun ρ hr => by simp only [List.mem_cons, List.not_mem_nil, or_false] at hr; simp [hr]))
                    have t0 := hS2.cellK (q := tb) (j := 0) (List.mem_cons_of_mem _ (List.mem_cons_of_mem _ (List.mem_cons_self ..))) rfl
                    have g0 := hS2.cellK (q := g) (j := 0) (List.mem_cons_self ..) rfl
                    have g1 := hS2.cellK (q := g) (j := 1) (List.mem_cons_self ..) rfl
                    have g2 := hS2.cellK (q := g) (j := 2) (List.mem_cons_self ..) rfl
                    have H3 := Lib.hid (hS2.subK (K' := [(tb, rtO tr tbt TA tn tc), (q, rtO (n : Int) now.b NA now.x.length nc), (lb, lfO d)]) (fun κ hk => by simp only [List.mem_cons, List.not_mem_nil, or_false] at hk; rcases hk with h | h | h <;> simp [h]))
                    clear hS2 h3 r0 r1 r2 hin
                    by_cases htr : tr = 0
                    · subst htr
                      have ot := rtO_own (base := W.heap.size) (H3.out.held (List.mem_cons_self ..)) (by have := HQ.out; omega)
                      have f0 := World.ownsRow.frozenAt ot 0
                      have f1 := World.ownsRow.frozenAt ot 1
                      have f2 := World.ownsRow.frozenAt ot 2
                      have k1 := World.ownsRow.cellAt ot 1 (by omega)
                      have k2 := World.ownsRow.cellAt ot 2 (by omega)
                      simp only [List.getElem?_cons_zero, List.getElem?_cons_succ] at k1 k2
                      have Hst := Lib.hid (stored3R ot (.int .i64 ((n : Int) + 1)) (.int .i64 e.b) (.slice e.A e.x.length e.c))
                      clear ot
                      go_wp2_with fail
                      have h9 := H3.out.store (by have := HQ.out; omega) (fun κ hk => by simp only [List.mem_cons, List.not_mem_nil, or_false] at hk; rcases hk with h | h <;> simp [h] <;> omega) Hst.out.2 Hst.out.1
                      have HN := Lib.hid (show Sw W _ p q ⟨1048576, -1, true, mkS a' b c⟩ [(tb, rtO ((n : Int) + 1) e.b e.A e.x.length e.c), (lb, lfO d)] now n from ⟨NA, nc, h9.subK (fun κ hk => by simp only [List.mem_cons, List.not_mem_nil, or_false] at hk; rcases hk with h | h | h <;> simp [h])⟩)
                      clear h9
                      go_roundw
                      case rel => exact ⟨k + 1, n, now, ahead, a', b, c, -1, true, (n : Int) + 1, e.b, e.A, e.x.length, e.c, by omega, by omega, by omega, by go_num, Lib.hid ⟨HS.out.1, HS.out.2.1, HS.out.2.2.1, ha'⟩, HN⟩
                      case measure => simp [intOf]; omega
                    · have htr2 : (tr == 0) = false := by simpa using htr
                      have HN := Lib.hid (show Sw W w3 p q ⟨1048576, -1, true, mkS a' b c⟩ [(tb, rtO tr tbt TA tn tc), (lb, lfO d)] now n from ⟨NA, nc, H3.out.subK (fun κ hk => by simp only [List.mem_cons, List.not_mem_nil, or_false] at hk; rcases hk with h | h | h <;> simp [h])⟩)
                      clear H3 g0 g1 g2
                      go_wp2_with fail
                      go_roundw
                      case rel => exact ⟨k + 1, n, now, ahead, a', b, c, -1, true, tr, tbt, TA, tn, tc, by omega, by omega, by omega, by go_num, Lib.hid ⟨HS.out.1, HS.out.2.1, HS.out.2.2.1, ha'⟩, HN⟩
                      case measure => simp [intOf]; omega
                  · have hc := rwrite_m HM1.out e.s e.b (List.mem_cons_self ..) (by show e.x.length ≤ _; omega) hwd
                    clear hwd key
                    go_wp2_with fail
                    refine hc.mono ?_; rintro x w2 ⟨RA, rc, rfl, h2⟩
                    clear hc x0 y0 y1 y2
                    have r0 := box_cellsR w2 [.int .i64 ((n : Int) + 1), .int .i64 e.b, .slice RA e.x.length rc] 24 0 _ rfl
                    have r1 := box_cellsR w2 [.int .i64 ((n : Int) + 1), .int .i64 e.b, .slice RA e.x.length rc] 24 1 _ rfl
                    have r2 := box_cellsR w2 [.int .i64 ((n : Int) + 1), .int .i64 e.b, .slice RA e.x.length rc] 24 2 _ rfl
                    have rb := below_alloc1 w2 (.cells #[.int .i64 ((n : Int) + 1), .int .i64 e.b, .slice RA e.x.length rc] 24)
                    have h3 := h2.below rb
                    go_upto_region 17 with fail
                    obtain ⟨w3, hw3⟩ : ∃ w3, w3 = w2.alloc (.cells #[.int .i64 ((n : Int) + 1), .int .i64 e.b, .slice RA e.x.length rc] 24) := ⟨_, rfl⟩
                    have hTw3 : (w2.alloc (.cells [Value.int .i64 ((n : Int) + 1), .int .i64 e.b, .slice RA e.x.length rc].toArray 24)) = w3 := hw3.symm
                    rw [hTw3] at r0 r1 r2
                    rw [← hw3] at rb h3 ⊢
                    clear hTw3 hw3
                    clear h2 rb
                    have g0 := h3.cellK (q := g) (j := 0) (List.mem_cons_self ..) rfl
                    have g1 := h3.cellK (q := g) (j := 1) (List.mem_cons_self ..) rfl
                    have g2 := h3.cellK (q := g) (j := 2) (List.mem_cons_self ..) rfl
                    have hsr := sameRoot_any ((n : Int) + 1) e.b ((n : Int) + 1) e.b RA e.A e.x.length rc e.x.length e.c e.x e.x w3 (h3.sl (List.mem_cons_self ..)) (h3.sl (List.mem_cons_of_mem _ (List.mem_cons_self ..)))
                    have htt : (decide ((n : Int) + 1 = (n : Int) + 1) && (decide (e.b = e.b) && (e.x == e.x))) = true := by simp
                    rw [htt] at hsr
                    have H3 := Lib.hid h3
                    clear h3 htt hin
                    go_wp2_with fail
                    refine hsr.mono ?_; rintro x w4 ⟨rfl, b4⟩
                    have h4 := H3.out.below b4
                    have g0 := cellB b4 g0
                    have g1 := cellB b4 g1
                    have g2 := cellB b4 g2
                    have hS2 := (h4.nil.old (ρ := ⟨e.A, e.x.length, e.c, e.x⟩) He.out.x.1).subK (K' := [(q, rtO (n : Int) now.b NA now.x.length nc), (tb, rtO tr tbt TA tn tc), (lb, lfO d)]) (fun κ hk => by simp only [List.mem_cons, List.not_mem_nil, or_false] at hk; rcases hk with h | h | h <;> simp [h])
                    have oq := rtO_own (base := W.heap.size) (hS2.held (List.mem_cons_self ..)) HQ.out
                    have ot := rtO_own (base := W.heap.size) (hS2.held (List.mem_cons_of_mem _ (List.mem_cons_self ..))) (by have := HQ.out; omega)
                    have f0 := World.ownsRow.frozenAt oq 0
                    have f1 := World.ownsRow.frozenAt oq 1
                    have f2 := World.ownsRow.frozenAt oq 2
                    have k0 := World.ownsRow.cellAt oq 0 (by omega)
                    have k1 := World.ownsRow.cellAt oq 1 (by omega)
                    have k2 := World.ownsRow.cellAt oq 2 (by omega)
                    have i0 := World.ownsRow.frozenAt ot 0
                    have i1 := World.ownsRow.frozenAt ot 1
                    have i2 := World.ownsRow.frozenAt ot 2
                    have l0 := World.ownsRow.cellAt ot 0 (by omega)
                    have l1 := World.ownsRow.cellAt ot 1 (by omega)
                    have l2 := World.ownsRow.cellAt ot 2 (by omega)
                    simp only [List.getElem?_cons_zero, List.getElem?_cons_succ] at k0 k1 k2 l0 l1 l2
                    have hst1 := stored3R oq (.int .i64 ((n : Int) + 1)) (.int .i64 e.b) (.slice e.A e.x.length e.c)
                    have ot2 := Own.apart ot hst1.2 (by omega)
                    have hst2 := stored3R ot2 (.int .i64 0) (.int .i64 0) (.slice none 0 0)
                    have h9 := hS2.store HQ.out (fun κ hk => by simp only [List.mem_cons, List.not_mem_nil, or_false] at hk; rcases hk with h | h <;> simp [h] <;> omega) hst1.2 hst1.1
                    have h10 := (h9.subK (K' := [(tb, rtO tr tbt TA tn tc), (q, rtO ((n : Int) + 1) e.b e.A e.x.length e.c), (lb, lfO d)]) (fun κ hk => by simp only [List.mem_cons, List.not_mem_nil, or_false] at hk; rcases hk with h | h | h <;> simp [h])).store (by have := HQ.out; omega) (fun κ hk => by simp only [List.mem_cons, List.not_mem_nil, or_false] at hk; rcases hk with h | h <;> simp [h] <;> omega) hst2.2 hst2.1
                    have HN := Lib.hid (show Sw W _ p q ⟨1048576, f', false, mkS none b' c'⟩ [(tb, rtO 0 0 none 0 0), (lb, lfO d)] ⟨(n : Int) + 1, e.b, e.x⟩ (n + 1) from ⟨e.A, e.c, h10.subK (fun κ hk => by simp only [List.mem_cons, List.not_mem_nil, or_false] at hk; rcases hk with h | h | h <;> simp [h])⟩)
                    have HST := Lib.hid hst
                    clear h4 hS2 oq ot ot2 hst1 hst2 h9 h10 b4 H3 hsr r0 r1 r2 hst
                    go_wp2_with fail
                    go_roundw
                    case rel => exact ⟨k + 1, n + 1, ⟨(n : Int) + 1, e.b, e.x⟩, now, none, b', c', f', false, 0, 0, none, 0, 0, by omega, by omega, by omega, by go_num, Lib.hid ⟨HST.out, by show e.x.length ≤ 150; omega, HS.out.2.1, by show 0 ≤ 250; omega⟩, HN⟩
                    case measure => simp [intOf]; omega
            · obtain rfl : k = 8 := by omega
              have x2 := hM.cellK (q := lb) (j := 2) (List.mem_cons_of_mem _ (List.mem_cons_of_mem _ (List.mem_cons_self ..))) rfl
              have x3 := hM.cellK (q := lb) (j := 3) (List.mem_cons_of_mem _ (List.mem_cons_of_mem _ (List.mem_cons_self ..))) rfl
              obtain ⟨a', hcr, hla⟩ := crash_S (a := a) HS.out.1.safe.1 HS.out.1.safe.2 d.ks d.ts
              have hcD : crashD ⟨1048576, fuse, dark, mkS a b c⟩ d.ks d.ts = ⟨1048576, -1, false, mkS a' b c⟩ := by unfold crashD; simp only [hcr]
              have hcc := crash_m hM Hd.out.ks.1 Hd.out.ts.1 Hd.out.ks.2.1 Hd.out.ts.2.1 (fun x hx => (Hd.out.ks.2.2 x hx).2) (fun x hx => (Hd.out.ts.2.2 x hx).2) hcD
              clear hM hcr hcD
              go_wp2_with fail
              refine hcc.mono ?_; rintro x w5 ⟨rfl, h5⟩
              clear hcc x2 x3 x0
              have hro : rootS b c = ⟨(n : Int), now.b, now.x⟩ := by
                have h8 := HS.out.1.root
                have h9 := HS.out.1.1
                rw [h8]
                cases now
                simp only at h9
                subst h9
                rfl
              have hrd : readRD ⟨1048576, -1, false, mkS a' b c⟩ = (⟨(n : Int), now.b, now.x⟩, decide ((0 : Int) < (n : Int)), 0) := by rw [readRD_S, hro]
              have hcr := rread_m h5 hrd
              clear h5 hro hrd
              go_wp2_with fail
              refine hcr.mono ?_; rintro x w6 ⟨RA, rc, rfl, h6⟩
              clear hcr
              have r0 := box_cellsR w6 [.int .i64 (n : Int), .int .i64 now.b, .slice RA now.x.length rc] 24 0 _ rfl
              have r1 := box_cellsR w6 [.int .i64 (n : Int), .int .i64 now.b, .slice RA now.x.length rc] 24 1 _ rfl
              have r2 := box_cellsR w6 [.int .i64 (n : Int), .int .i64 now.b, .slice RA now.x.length rc] 24 2 _ rfl
              have rb := below_alloc1 w6 (.cells #[.int .i64 (n : Int), .int .i64 now.b, .slice RA now.x.length rc] 24)
              have h7 := h6.below rb
              go_upto_region 28 with fail
              obtain ⟨w7, hw7⟩ : ∃ w7, w7 = w6.alloc (.cells #[.int .i64 (n : Int), .int .i64 now.b, .slice RA now.x.length rc] 24) := ⟨_, rfl⟩
              have hTw7 : (w6.alloc (.cells [Value.int .i64 (n : Int), .int .i64 now.b, .slice RA now.x.length rc].toArray 24)) = w7 := hw7.symm
              rw [hTw7] at r0 r1 r2
              rw [← hw7] at rb h7 ⊢
              clear hTw7 hw7
              have n0 := h7.cellK (q := q) (j := 0) (List.mem_cons_self ..) rfl
              have n1 := h7.cellK (q := q) (j := 1) (List.mem_cons_self ..) rfl
              have n2 := h7.cellK (q := q) (j := 2) (List.mem_cons_self ..) rfl
              have H7 := Lib.hid h7
              have hsr := sameRoot_any (n : Int) now.b (n : Int) now.b RA NA now.x.length rc now.x.length nc now.x now.x w7 (h7.sl (List.mem_cons_self ..)) (h7.sl (List.mem_cons_of_mem _ (List.mem_cons_self ..)))
              have htt : (decide ((n : Int) = (n : Int)) && (decide (now.b = now.b) && (now.x == now.x))) = true := by simp
              rw [htt] at hsr
              clear h6 h7 htt rb
              by_cases hz : (0 : Int) < (n : Int)
              · go_wp2_with fail
                refine hsr.mono ?_; rintro x w8 ⟨rfl, b8⟩
                have h8 := H7.out.below b8
                have z0 := cellB b8 r0
                have z1 := cellB b8 r1
                have z2 := cellB b8 r2
                have oq := rtO_own (h8.held (List.mem_cons_self ..)) HQ.out
                have f0 := World.ownsRow.frozenAt oq 0
                have f1 := World.ownsRow.frozenAt oq 1
                have f2 := World.ownsRow.frozenAt oq 2
                have k0 := World.ownsRow.cellAt oq 0 (by omega)
                have k1 := World.ownsRow.cellAt oq 1 (by omega)
                have k2 := World.ownsRow.cellAt oq 2 (by omega)
                simp only [List.getElem?_cons_zero, List.getElem?_cons_succ] at k0 k1 k2
                have Hst := Lib.hid (stored3R oq (.int .i64 (n : Int)) (.int .i64 now.b) (.slice RA now.x.length rc))
                have H8 := Lib.hid h8
                clear h8 b8 hsr r0 r1 r2 n0 n1 n2 oq
                go_wp2_with fail
                have h9 := H8.out.store HQ.out (fun κ hk => by simp only [List.mem_cons, List.not_mem_nil, or_false] at hk; rcases hk with h | h <;> simp [h] <;> omega) Hst.out.2 Hst.out.1
                have HN := Lib.hid (show Sw W _ p q ⟨1048576, -1, false, mkS a' b c⟩ [] now n from ⟨RA, rc, (h9.sub (L' := [⟨RA, now.x.length, rc, now.x⟩]) (fun ρ hr => by simp only [List.mem_cons, List.not_mem_nil, or_false] at hr; simp [hr])).subK (fun κ hk => by simp only [List.mem_cons, List.not_mem_nil, or_false] at hk; simp [hk])⟩)
                clear h9
                go_roundw
                case rel => exact ⟨i + 1, n, now, ahead, a', b, c, by omega, by omega, by omega, by go_num, Lib.hid ⟨HS.out.1, HS.out.2.1, HS.out.2.2.1, by have := HS.out.2.2.2; omega⟩, HN⟩
                case measure => simp [intOf]; omega
              · go_wp2_with fail
                refine hsr.mono ?_; rintro x w8 ⟨rfl, b8⟩
                have h8 := H7.out.below b8
                have z0 := cellB b8 r0
                have z1 := cellB b8 r1
                have z2 := cellB b8 r2
                have oq := rtO_own (h8.held (List.mem_cons_self ..)) HQ.out
                have f0 := World.ownsRow.frozenAt oq 0
                have f1 := World.ownsRow.frozenAt oq 1
                have f2 := World.ownsRow.frozenAt oq 2
                have k0 := World.ownsRow.cellAt oq 0 (by omega)
                have k1 := World.ownsRow.cellAt oq 1 (by omega)
                have k2 := World.ownsRow.cellAt oq 2 (by omega)
                simp only [List.getElem?_cons_zero, List.getElem?_cons_succ] at k0 k1 k2
                have Hst := Lib.hid (stored3R oq (.int .i64 (n : Int)) (.int .i64 now.b) (.slice RA now.x.length rc))
                have H8 := Lib.hid h8
                clear h8 b8 hsr r0 r1 r2 n0 n1 n2 oq
                go_wp2_with fail
                have h9 := H8.out.store HQ.out (fun κ hk => by simp only [List.mem_cons, List.not_mem_nil, or_false] at hk; rcases hk with h | h <;> simp [h] <;> omega) Hst.out.2 Hst.out.1
                have HN := Lib.hid (show Sw W _ p q ⟨1048576, -1, false, mkS a' b c⟩ [] now n from ⟨RA, rc, (h9.sub (L' := [⟨RA, now.x.length, rc, now.x⟩]) (fun ρ hr => by simp only [List.mem_cons, List.not_mem_nil, or_false] at hr; simp [hr])).subK (fun κ hk => by simp only [List.mem_cons, List.not_mem_nil, or_false] at hk; simp [hk])⟩)
                clear h9
                go_roundw
                case rel => exact ⟨i + 1, n, now, ahead, a', b, c, by omega, by omega, by omega, by go_num, Lib.hid ⟨HS.out.1, HS.out.2.1, HS.out.2.2.1, by have := HS.out.2.2.2; omega⟩, HN⟩
                case measure => simp [intOf]; omega
          · obtain rfl : k = d.rs.length := by omega
            have x2 := hM.cellK (q := lb) (j := 2) (List.mem_cons_of_mem _ (List.mem_cons_of_mem _ (List.mem_cons_self ..))) rfl
            have x3 := hM.cellK (q := lb) (j := 3) (List.mem_cons_of_mem _ (List.mem_cons_of_mem _ (List.mem_cons_self ..))) rfl
            obtain ⟨a', hcr, hla⟩ := crash_S (a := a) HS.out.1.safe.1 HS.out.1.safe.2 d.ks d.ts
            have hcD : crashD ⟨1048576, fuse, dark, mkS a b c⟩ d.ks d.ts = ⟨1048576, -1, false, mkS a' b c⟩ := by unfold crashD; simp only [hcr]
            have hcc := crash_m hM Hd.out.ks.1 Hd.out.ts.1 Hd.out.ks.2.1 Hd.out.ts.2.1 (fun x hx => (Hd.out.ks.2.2 x hx).2) (fun x hx => (Hd.out.ts.2.2 x hx).2) hcD
            clear hM hcr hcD
            go_wp2_with fail
            refine hcc.mono ?_; rintro x w5 ⟨rfl, h5⟩
            clear hcc x2 x3 x0
            have hro : rootS b c = ⟨(n : Int), now.b, now.x⟩ := by
              have h8 := HS.out.1.root
              have h9 := HS.out.1.1
              rw [h8]
              cases now
              simp only at h9
              subst h9
              rfl
            have hrd : readRD ⟨1048576, -1, false, mkS a' b c⟩ = (⟨(n : Int), now.b, now.x⟩, decide ((0 : Int) < (n : Int)), 0) := by rw [readRD_S, hro]
            have hcr := rread_m h5 hrd
            clear h5 hro hrd
            go_wp2_with fail
            refine hcr.mono ?_; rintro x w6 ⟨RA, rc, rfl, h6⟩
            clear hcr
            have r0 := box_cellsR w6 [.int .i64 (n : Int), .int .i64 now.b, .slice RA now.x.length rc] 24 0 _ rfl
            have r1 := box_cellsR w6 [.int .i64 (n : Int), .int .i64 now.b, .slice RA now.x.length rc] 24 1 _ rfl
            have r2 := box_cellsR w6 [.int .i64 (n : Int), .int .i64 now.b, .slice RA now.x.length rc] 24 2 _ rfl
            have rb := below_alloc1 w6 (.cells #[.int .i64 (n : Int), .int .i64 now.b, .slice RA now.x.length rc] 24)
            have h7 := h6.below rb
            go_upto_region 28 with fail
            obtain ⟨w7, hw7⟩ : ∃ w7, w7 = w6.alloc (.cells #[.int .i64 (n : Int), .int .i64 now.b, .slice RA now.x.length rc] 24) := ⟨_, rfl⟩
            have hTw7 : (w6.alloc (.cells [Value.int .i64 (n : Int), .int .i64 now.b, .slice RA now.x.length rc].toArray 24)) = w7 := hw7.symm
            rw [hTw7] at r0 r1 r2
            rw [← hw7] at rb h7 ⊢
            clear hTw7 hw7
            have n0 := h7.cellK (q := q) (j := 0) (List.mem_cons_self ..) rfl
            have n1 := h7.cellK (q := q) (j := 1) (List.mem_cons_self ..) rfl
            have n2 := h7.cellK (q := q) (j := 2) (List.mem_cons_self ..) rfl
            have H7 := Lib.hid h7
            have hsr := sameRoot_any (n : Int) now.b (n : Int) now.b RA NA now.x.length rc now.x.length nc now.x now.x w7 (h7.sl (List.mem_cons_self ..)) (h7.sl (List.mem_cons_of_mem _ (List.mem_cons_self ..)))
            have htt : (decide ((n : Int) = (n : Int)) && (decide (now.b = now.b) && (now.x == now.x))) = true := by simp
            rw [htt] at hsr
            clear h6 h7 htt rb
            by_cases hz : (0 : Int) < (n : Int)
            · go_wp2_with fail
              refine hsr.mono ?_; rintro x w8 ⟨rfl, b8⟩
              have h8 := H7.out.below b8
              have z0 := cellB b8 r0
              have z1 := cellB b8 r1
              have z2 := cellB b8 r2
              have oq := rtO_own (h8.held (List.mem_cons_self ..)) HQ.out
              have f0 := World.ownsRow.frozenAt oq 0
              have f1 := World.ownsRow.frozenAt oq 1
              have f2 := World.ownsRow.frozenAt oq 2
              have k0 := World.ownsRow.cellAt oq 0 (by omega)
              have k1 := World.ownsRow.cellAt oq 1 (by omega)
              have k2 := World.ownsRow.cellAt oq 2 (by omega)
              simp only [List.getElem?_cons_zero, List.getElem?_cons_succ] at k0 k1 k2
              have Hst := Lib.hid (stored3R oq (.int .i64 (n : Int)) (.int .i64 now.b) (.slice RA now.x.length rc))
              have H8 := Lib.hid h8
              clear h8 b8 hsr r0 r1 r2 n0 n1 n2 oq
              go_wp2_with fail
              have h9 := H8.out.store HQ.out (fun κ hk => by simp only [List.mem_cons, List.not_mem_nil, or_false] at hk; rcases hk with h | h <;> simp [h] <;> omega) Hst.out.2 Hst.out.1
              have HN := Lib.hid (show Sw W _ p q ⟨1048576, -1, false, mkS a' b c⟩ [] now n from ⟨RA, rc, (h9.sub (L' := [⟨RA, now.x.length, rc, now.x⟩]) (fun ρ hr => by simp only [List.mem_cons, List.not_mem_nil, or_false] at hr; simp [hr])).subK (fun κ hk => by simp only [List.mem_cons, List.not_mem_nil, or_false] at hk; simp [hk])⟩)
              clear h9
              go_roundw
              case rel => exact ⟨i + 1, n, now, ahead, a', b, c, by omega, by omega, by omega, by go_num, Lib.hid ⟨HS.out.1, HS.out.2.1, HS.out.2.2.1, by have := HS.out.2.2.2; omega⟩, HN⟩
              case measure => simp [intOf]; omega
            · go_wp2_with fail
              refine hsr.mono ?_; rintro x w8 ⟨rfl, b8⟩
              have h8 := H7.out.below b8
              have z0 := cellB b8 r0
              have z1 := cellB b8 r1
              have z2 := cellB b8 r2
              have oq := rtO_own (h8.held (List.mem_cons_self ..)) HQ.out
              have f0 := World.ownsRow.frozenAt oq 0
              have f1 := World.ownsRow.frozenAt oq 1
              have f2 := World.ownsRow.frozenAt oq 2
              have k0 := World.ownsRow.cellAt oq 0 (by omega)
              have k1 := World.ownsRow.cellAt oq 1 (by omega)
              have k2 := World.ownsRow.cellAt oq 2 (by omega)
              simp only [List.getElem?_cons_zero, List.getElem?_cons_succ] at k0 k1 k2
              have Hst := Lib.hid (stored3R oq (.int .i64 (n : Int)) (.int .i64 now.b) (.slice RA now.x.length rc))
              have H8 := Lib.hid h8
              clear h8 b8 hsr r0 r1 r2 n0 n1 n2 oq
              go_wp2_with fail
              have h9 := H8.out.store HQ.out (fun κ hk => by simp only [List.mem_cons, List.not_mem_nil, or_false] at hk; rcases hk with h | h <;> simp [h] <;> omega) Hst.out.2 Hst.out.1
              have HN := Lib.hid (show Sw W _ p q ⟨1048576, -1, false, mkS a' b c⟩ [] now n from ⟨RA, rc, (h9.sub (L' := [⟨RA, now.x.length, rc, now.x⟩]) (fun ρ hr => by simp only [List.mem_cons, List.not_mem_nil, or_false] at hr; simp [hr])).subK (fun κ hk => by simp only [List.mem_cons, List.not_mem_nil, or_false] at hk; simp [hk])⟩)
              clear h9
              go_roundw
              case rel => exact ⟨i + 1, n, now, ahead, a', b, c, by omega, by omega, by omega, by go_num, Lib.hid ⟨HS.out.1, HS.out.2.1, HS.out.2.2.1, by have := HS.out.2.2.2; omega⟩, HN⟩
              case measure => simp [intOf]; omega
      · obtain rfl : i = 6 := by omega
        obtain ⟨NA, nc, hM⟩ := HI.out
        have hbl := Lib.hid hM.bel
        clear hM
        go_wp2_with fail
        refine (awake6_any wr).mono ?_; rintro e wz ⟨rfl, bz⟩
        go_wp2_with fail
        go_ret
        exact ⟨rfl, hbl.out.trans (bz.mono hbl.out.size)⟩
    · obtain rfl : i = m := by omega
      obtain ⟨NA, nc, hM⟩ := HI.out
      have hbl := Lib.hid hM.bel
      clear hM
      go_wp2_with fail
      refine (awake6_any wr).mono ?_; rintro e wz ⟨rfl, bz⟩
      go_wp2_with fail
      go_ret
      exact ⟨rfl, hbl.out.trans (bz.mono hbl.out.size)⟩
end Go.Proofs.Ytemegkapmgcffaa
