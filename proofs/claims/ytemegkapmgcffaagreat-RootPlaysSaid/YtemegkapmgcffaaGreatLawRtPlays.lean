import Derived.Test.YtemegkapmgcffaaGreatR6C
import Derived.Test.YtemegkapmgcffaaGreatT2
import Derived.Test.YtemegkapmgcffaaGreatRowsOp
import Derived.Test.YtemegkapmgcffaaGreatR2H
import Derived.Test.YtemegkapmgcffaaGreatR2J
import Derived.Test.YtemegkapmgcffaaGreatR2L
import Derived.Test.YtemegkapmgcffaaGreatR2N
import Derived.Test.YtemegkapmgcffaaGreatR2P
import Derived.Test.YtemegkapmgcffaaGreatMRc
import Derived.Deep.CutBlock
import Derived.Deep.DeepCutAuto
/- RootPlays: the walk (printed by wip/gen/gplays.py). -/
namespace Go.Proofs.YtemegkapmgcffaaGreat
open Go.RowKit
set_option linter.unusedSimpArgs false
set_option linter.unusedVariables false

def nw1 : Nm := [119, 49]
def nmOf (j : Nat) : Nm := if j = 0 then rn0 else if j = 1 then rn1 else if j = 2 then rnw else nw1
theorem nmOf_len (j : Nat) : (nmOf j).length ≤ maxLen := by
  unfold nmOf maxLen
  split
  · decide
  · split
    · decide
    · split <;> decide
def nmsO : Obj := .cells #[.string (bstr rn0), .string (bstr rn1), .string (bstr rnw), .string (bstr nw1)] 9
theorem nms_at {w : World} {q j : Nat} (h : w.heap[q]? = some nmsO) (hj : j < 4) : w.cell? ((⟨q, 0, none⟩ : Addr).add j) = some (.string (bstr (nmOf j))) := by
  rw [add_plain]
  refine row_cell h ?_
  obtain rfl | rfl | rfl | rfl : j = 0 ∨ j = 1 ∨ j = 2 ∨ j = 3 := by omega
  all_goals rfl
theorem put_room (D : Dk) (s b : Int) (x bs : List UInt8) : (putD D s b x bs).1.room = D.room := by
  have e1 := append_room D rnw bs
  have e2 : (syncD (appendD D rnw bs).2 rnw).2.room = (appendD D rnw bs).2.room := of_room _ _ _ _
  have e3 : (renameD (syncD (appendD D rnw bs).2 rnw).2 rnw (rnm s.toNat)).2.room = (syncD (appendD D rnw bs).2 rnw).2.room := of_room _ _ _ _
  unfold putD
  split
  · exact e1
  · split
    · exact e2.trans e1
    · split
      · exact e3.trans (e2.trans e1)
      · exact e3.trans (e2.trans e1)
theorem writeF_room (D : Dk) (b : Int) (x : List UInt8) : (writeF D b x).1.room = D.room := by
  have e1 : (removeD D rnw).2.room = D.room := of_room _ _ _ _
  unfold writeF
  split
  · rfl
  · split
    · rfl
    · split
      · split
        · exact e1
        · exact (put_room _ _ _ _ _).trans e1
      · exact put_room _ _ _ _ _
theorem write_x (D : Dk) (b : Int) (x : List UInt8) (h : (writeF D b x).2.1.x ≠ []) : (writeF D b x).2.1.x = x := by
  have hp : ∀ (D : Dk) (s : Int) (bs : List UInt8), (putD D s b x bs).2.1.x ≠ [] → (putD D s b x bs).2.1.x = x := fun D s bs h => by
    unfold putD at h ⊢
    split at h
    · exact absurd rfl h
    · rename_i h1
      rw [if_neg h1]
      split at h
      · exact absurd rfl h
      · rename_i h2
        rw [if_neg h2]
        split at h
        · exact absurd rfl h
        · rename_i h3
          rw [if_neg h3]
  unfold writeF at h ⊢
  split at h
  · exact absurd rfl h
  · rename_i h1
    rw [if_neg h1]
    split at h
    · exact absurd rfl h
    · rename_i h2
      rw [if_neg h2]
      split at h
      · rename_i h3
        rw [if_pos h3]
        split at h
        · exact absurd rfl h
        · rename_i h4
          rw [if_neg h4]
          exact hp _ _ _ h
      · rename_i h3
        rw [if_neg h3]
        exact hp _ _ _ h
theorem sl_four {w : World} {q : Nat} {N : Int} (h : w.heap[q]? = some (.cells #[.int .i64 N, .int .i64 N, .int .i64 N, .int .i64 N] 3)) : Sl w 1 (some ⟨q, 0, none⟩) 4 4 (intsV [N, N, N, N]) :=
  ⟨fun j u hj => ⟨⟨q, 0, none⟩, rfl, by
    rw [add_plain]
    refine row_cell h ?_
    simpa [intsV] using hj⟩, rfl, Nat.le_refl _, fun h => by cases h⟩
set_option maxRecDepth 100000 in
set_option maxHeartbeats 16000000 in
theorem plays_any {W : World} {A0 : Option Addr} {n0 c0 : Nat} {os : List Op6} {most : Int} (s : Sl W 6 A0 n0 c0 (flatOp os)) (ok : ∀ e, e ∈ os → OkOp6 W e) (hn : n0 ≤ 9223372036854775807) (hm : 0 ≤ most ∧ most ≤ 65535) :
    Calls Tryz.prog 3 #[.int .u16 most, .slice A0 n0 c0] W fun x w' => x = .returned (.bool true) ∧ Below W.heap.size W w' := by
  have hln := slOp_len s
  have S := Lib.hid s
  have OK := Lib.hid ok
  have Hln := Lib.hid hln
  clear s ok hln
  have hc1 := New_ok (base := W.heap.size) most W (by omega) (Nat.le_refl _)
  have hc2 := fun w => r2New_any most w
  simp only [if_pos (show 0 ≤ most ∧ most ≤ 16777216 by omega)] at hc2
  have hwm : IntKind.i64.wrap most = most := by rw [IntKind.wrap_i64]; omega
  go_enter Tryz.func3, Tryz.ntmps3
  go_wp2_with fail
  refine hc1.mono ?_; rintro x w1 ⟨p, F, rfl, k1, k2, k3⟩
  clear hc1
  go_wp2_with fail
  refine (hc2 w1).mono ?_; rintro x w2 ⟨rfl, k4⟩
  clear hc2
  have hbx := below_alloc1 w2 (.cells #[.int .i64 most, .slice none 0 0, .int .i64 (-1), .bool false] 30)
  have obx := new_own w2 [.int .i64 most, .slice none 0 0, .int .i64 (-1), .bool false] 30 4 rfl (by unfold maxLen; omega)
  have hbel := (k3.trans (k4.mono k3.size)).trans (hbx.mono (Nat.le_trans k3.size k4.size))
  have ht : T2 W (w2.alloc (.cells #[.int .i64 most, .slice none 0 0, .int .i64 (-1), .bool false] 30)) p w2.heap.size (newD most) (newD most) F none 0 0 [] [] [] :=
    ⟨(k1.below k4).below hbx, hbel, ⟨⟨fun j u hj => by simp [flatFE] at hj, rfl, Nat.le_refl _, fun _ => ⟨rfl, rfl⟩⟩, fun h => absurd rfl h, fun e he => by cases he⟩, rfl, Own.lower obx (Nat.le_trans k3.size k4.size), fun h => by have := ((k1.below k4).bound _ h).2; omega, fun ρ hr => (by cases hr), fun κ hk => (by cases hk)⟩
  have HT := Lib.hid (ht.alloc nmsO)
  clear hbx obx hbel k1 k2 k3 k4 ht
  obtain ⟨B, hB⟩ : ∃ B, B = w2.heap.size := ⟨_, rfl⟩
  rw [← hB] at HT
  go_upto_region 3 with fail
  obtain ⟨w3, hw3⟩ : ∃ w3, w3 = w2.alloc (.cells #[.int .i64 most, .slice none 0 0, .int .i64 (-1), .bool false] 30) := ⟨_, rfl⟩
  rw [← hw3] at HT ⊢
  rw [← hB]
  clear hw3 hB
  go_upto_region 6 with fail
  obtain ⟨w4, hw4⟩ : ∃ w4, w4 = w3.alloc nmsO := ⟨_, rfl⟩
  have hw4b : w3.alloc (.cells #[.string { data := #[114, 111, 111, 116, 48] }, .string { data := #[114, 111, 111, 116, 49] }, .string { data := #[114, 111, 111, 116, 46, 110, 101, 119] }, .string { data := #[119, 49] }] 9) = w4 := hw4.symm
  rw [← hw4] at HT
  rw [hw4b]
  obtain ⟨nq, hnq⟩ : ∃ nq, nq = w3.heap.size := ⟨_, rfl⟩
  rw [← hnq] at HT ⊢
  obtain ⟨na, hna⟩ : ∃ na, na = (⟨nq, 0, none⟩ : Addr) := ⟨_, rfl⟩
  rw [← hna]
  have HNA := Lib.hid hna
  clear hw4 hw4b hnq hna hwm
  go_wp2_with fail
  go_loopw [10] (fun s10 wx => ∃ (i : Nat) (D : Dk) (F : Nat → Prop) (A : Option Addr) (n c : Nat) (es : List FE), i ≤ n0 ∧ i ≤ 50 ∧ s10 = .int .i64 (i : Int) ∧ Hid (D.room ≤ 65535) ∧ Hid (T2 W wx p B D D F A n c es [] [(nq, nmsO)])) (fun iv _ => 50 - (intOf iv).toNat)
  case atStart => exact ⟨0, newD most, F, none, 0, 0, [], by omega, by omega, rfl, Lib.hid hm.2, HT⟩
  case round =>
    obtain ⟨i, D, F, A, n, c, es, hi, hi50, rfl, HRm, H⟩ := hrel
    by_cases hgo : (i : Int) < (n0 : Int) ∧ (i : Int) < 50
    · obtain ⟨hgo1, hgo2⟩ := hgo
      obtain ⟨d, hd⟩ := get_some os i (by rw [Hln.out]; omega)
      have hs := S.out.below H.out.bel
      obtain ⟨ad, rfl⟩ := slOp_addr hs hd
      obtain ⟨y0, y1, y2, y3, y4, y5⟩ := slOp_six hs hd
      have hin : (0 : Int) ≤ (i : Int) ∧ (i : Int) < (n0 : Int) := by omega
      have Hd := Lib.hid (OK.out d (List.mem_of_getElem? hd))
      have H1 := Lib.hid (H.out.alloc (.cells #[.int .i64 d.k, .int .i64 d.n, .int .i64 d.r.s, .int .i64 d.r.b, .slice d.r.A d.r.x.length d.r.c, .int .u8 d.nm] 38))
      have c0 := H1.out.cellK (List.mem_cons_self ..) (j := 0) rfl
      have c1 := H1.out.cellK (List.mem_cons_self ..) (j := 1) rfl
      have c2 := H1.out.cellK (List.mem_cons_self ..) (j := 2) rfl
      have c3 := H1.out.cellK (List.mem_cons_self ..) (j := 3) rfl
      have c4 := H1.out.cellK (List.mem_cons_self ..) (j := 4) rfl
      have c5 := H1.out.cellK (List.mem_cons_self ..) (j := 5) rfl
      clear hs hd
      go_upto_region 10 with fail
      obtain ⟨w1, hw1⟩ : ∃ w1, w1 = wr.alloc (.cells #[.int .i64 d.k, .int .i64 d.n, .int .i64 d.r.s, .int .i64 d.r.b, .slice d.r.A d.r.x.length d.r.c, .int .u8 d.nm] 38) := ⟨_, rfl⟩
      rw [← hw1] at H1 c0 c1 c2 c3 c4 c5 ⊢
      obtain ⟨qo, hqo⟩ : ∃ qo, qo = wr.heap.size := ⟨_, rfl⟩
      rw [← hqo] at H1 c0 c1 c2 c3 c4 c5 ⊢
      clear hw1 hqo y0 y1 y2 y3 y4 y5 H
      have hnmr := Hd.out.nm
      obtain ⟨j, hj⟩ : ∃ j : Nat, d.nm % 4 = (j : Int) := ⟨(d.nm % 4).toNat, by omega⟩
      have hj4 : j < 4 := by omega
      have hinj : (0 : Int) ≤ (j : Int) ∧ (j : Int) < 4 := by omega
      have hcn : w1.cell? (na.add j) = some (.string (bstr (nmOf j))) := by rw [HNA.out]; exact nms_at (H1.out.held (List.mem_cons_of_mem _ (List.mem_cons_self ..))) hj4
      obtain ⟨nm, hnm⟩ : ∃ nm, nm = nmOf j := ⟨_, rfl⟩
      rw [← hnm] at hcn
      have HNL := Lib.hid (show nm.length ≤ maxLen by rw [hnm]; exact nmOf_len j)
      clear hnm
      go_upto_region 11 with fail
      clear hcn hinj hj4 hj hnmr c5
      by_cases hbig : (200 : Int) < (d.r.x.length : Int)
      · go_wp2_with fail
        go_roundw
        case rel => exact ⟨i + 1, D, F, A, n, c, es, by omega, by omega, by go_num, HRm, Lib.hid (H1.out.sub (fun ρ hr => hr) (fun κ hk => List.mem_cons_of_mem _ hk))⟩
        case measure => simp [intOf]; omega
      · have hxl : d.r.x.length ≤ 200 := by omega
        have H2 := Lib.hid ((H1.out.alloc (rtO 0 0 none 0 0)).alloc (rtO 0 0 none 0 0))
        have hb12 := (below_alloc1 w1 (rtO 0 0 none 0 0)).trans ((below_alloc1 (w1.alloc (rtO 0 0 none 0 0)) (rtO 0 0 none 0 0)).mono (by simp))
        have c0 := cellB hb12 c0
        have c1 := cellB hb12 c1
        have c2 := cellB hb12 c2
        have c3 := cellB hb12 c3
        have c4 := cellB hb12 c4
        have hz1 : (w1.alloc (rtO 0 0 none 0 0)).heap.size = w1.heap.size + 1 := by simp
        rw [hz1] at H2
        clear hz1 hb12
        go_upto_region 14 with fail
        obtain ⟨w2, hw2⟩ : ∃ w2, w2 = (w1.alloc (rtO 0 0 none 0 0)).alloc (rtO 0 0 none 0 0) := ⟨_, rfl⟩
        have hw2b : (w1.alloc (.cells #[.int .i64 0, .int .i64 0, .slice none 0 0] 36)).alloc (.cells #[.int .i64 0, .int .i64 0, .slice none 0 0] 36) = w2 := hw2.symm
        rw [← hw2] at H2 c0 c1 c2 c3 c4
        rw [hw2b]
        obtain ⟨qa, hqa⟩ : ∃ qa, qa = w1.heap.size := ⟨_, rfl⟩
        rw [← hqa] at H2 ⊢
        have HQ := Lib.hid (show qo < qa by rw [hqa]; exact heap_lt (H1.out.held (List.mem_cons_self ..)))
        have HQ2 := Lib.hid (show nq < qa by rw [hqa]; exact heap_lt (H1.out.held (List.mem_cons_of_mem _ (List.mem_cons_self ..))))
        clear hw2 hw2b hqa H1 hbig
        obtain ⟨kk, hkk⟩ : ∃ kk, kk = d.k := ⟨_, rfl⟩
        rw [← hkk] at c0
        have HKr := Lib.hid (show -9223372036854775808 ≤ kk ∧ kk ≤ 9223372036854775807 by rw [hkk]; exact Hd.out.k)
        have C1 := Lib.hid c1
        have HGD := Lib.hid H2.out.dk.good
        have HX := Lib.hid hxl
        have HR3 := Lib.hid (show D.room ≤ 300000 by have := HRm.out; omega)
        have HOB : Hid (∀ (w' : World) (F' : Nat → Prop), Cg F F' w2 w' → w'.cell? ⟨qo, 1, none⟩ = w2.cell? ⟨qo, 1, none⟩ ∧ w'.cell? ⟨qo, 2, none⟩ = w2.cell? ⟨qo, 2, none⟩ ∧ w'.cell? ⟨qo, 3, none⟩ = w2.cell? ⟨qo, 3, none⟩ ∧ w'.cell? ⟨qo, 4, none⟩ = w2.cell? ⟨qo, 4, none⟩) := Lib.hid fun w' F' hc => by
          obtain ⟨g1, g2, _, _⟩ := H2.out.kb (qo, _) (List.mem_cons_of_mem _ (List.mem_cons_of_mem _ (List.mem_cons_self ..)))
          have hb := hc.block _ (heap_lt g1) g2
          exact ⟨World.cell?_of_block hb, World.cell?_of_block hb, World.cell?_of_block hb, World.cell?_of_block hb⟩
        clear c1 hxl hkk
        go_upto_block 2 with fail
        go_cut [13, 14, 17] (fun s13 s14 s17 wx => ∃ (rD : Dk) (F2 : Nat → Prop) (A3 : Option Addr) (n3 cc3 : Nat) (es3 : List FE) (re sa ba : Int) (x : List UInt8) (Aa : Option Addr) (ca : Nat) (Ab : Option Addr) (cb : Nat), s13 = .int .i64 re ∧ s14 = .int .i64 re ∧ Hid (rD.room ≤ 65535) ∧ Hid (T2 W wx p B rD rD F2 A3 n3 cc3 es3 [⟨Ab, x.length, cb, x⟩, ⟨Aa, x.length, ca, x⟩] ((qa + 1, rtO sa ba Ab x.length cb) :: (qa, rtO sa ba Aa x.length ca) :: (qo, Obj.cells #[.int .i64 d.k, .int .i64 d.n, .int .i64 d.r.s, .int .i64 d.r.b, .slice d.r.A d.r.x.length d.r.c, .int .u8 d.nm] 38) :: [(nq, nmsO)])))
        case rest =>
          obtain ⟨rD, F2, A3, n3, cc3, es3, re, sa, ba, x, Aa, ca, Ab, cb, rfl, rfl, HRn, H6⟩ := hcut
          clear c0 c2 c3 c4
          as_aux_lemma =>
            obtain ⟨q, okq, g, hrd⟩ : ∃ q okq g, readRD rD = (q, okq, g) := ⟨_, _, _, rfl⟩
            have hrc := rRead_any H6.out.dk
            rw [hrd] at hrc
            have HRD := Lib.hid hrd
            have HG2 := Lib.hid H6.out.dk.good
            clear hrd
            go_wp2_with fail
            refine hrc.mono ?_; rintro y v1 ⟨Ap, cp, Bp, F3, rfl, ho, hBp, hFp, hdp, hcp⟩
            simp only [rtV]
            have Ha := Lib.hid (((H6.out.step hdp hcp).add (ρ := ⟨Ap, q.x.length, cp, q.x⟩) (rws_own ho hFp)).alloc (rtO q.s q.b Ap q.x.length cp))
            clear hrc ho hBp hFp hdp hcp
            go_upto_region 38 with fail
            obtain ⟨v2, hv2⟩ : ∃ v2, v2 = v1.alloc (rtO q.s q.b Ap q.x.length cp) := ⟨_, rfl⟩
            have hv2b : v1.alloc (.cells #[.int .i64 q.s, .int .i64 q.b, .slice Ap q.x.length cp] 36) = v2 := hv2.symm
            rw [← hv2] at Ha
            rw [hv2b]
            obtain ⟨qp, hqp⟩ : ∃ qp, qp = v1.heap.size := ⟨_, rfl⟩
            rw [← hqp] at Ha ⊢
            clear hv2 hv2b hqp
            obtain ⟨k0, k1, k2, k3⟩ := Ha.out.cb
            have hqc := r6Read_any (room := rD.room) (fuse := rD.fuse) (dark := rD.dark) Ha.out.r2.sl (fun e he => (Ha.out.r2.ok e he).1) (HG2.out.srtE Ha.out.eq) (by have h1 := HG2.out.fewE Ha.out.eq; have h2 := slFE_len Ha.out.r2.sl; omega) (fun e he => by have := HG2.out.eachE Ha.out.eq (by have := HRn.out; omega) e he; omega) ((readRD_mk Ha.out.eq).trans HRD.out)
            go_wp2_with fail
            refine hqc.mono ?_; rintro y v3 ⟨Aq, cq, rfl, sq, bq⟩
            simp only [rtV]
            have Hb := Lib.hid ((Ha.out.below bq).alloc (rtO q.s q.b Aq q.x.length cq))
            have SQ := Lib.hid (sq.below (below_alloc1 v3 (rtO q.s q.b Aq q.x.length cq)))
            clear hqc sq bq k0 k1 k2 k3 Ha
            go_upto_region 39 with fail
            obtain ⟨v4, hv4⟩ : ∃ v4, v4 = v3.alloc (rtO q.s q.b Aq q.x.length cq) := ⟨_, rfl⟩
            have hv4b : v3.alloc (.cells #[.int .i64 q.s, .int .i64 q.b, .slice Aq q.x.length cq] 36) = v4 := hv4.symm
            rw [← hv4] at Hb SQ
            rw [hv4b]
            obtain ⟨qq, hqq⟩ : ∃ qq, qq = v3.heap.size := ⟨_, rfl⟩
            rw [← hqq] at Hb ⊢
            clear hv4 hv4b hqq
            have KQ0 := Hb.out.cellK (List.mem_cons_self ..) (j := 0) rfl
            have KQ1 := Hb.out.cellK (List.mem_cons_self ..) (j := 1) rfl
            have KQ2 := Hb.out.cellK (List.mem_cons_self ..) (j := 2) rfl
            have KP0 := Hb.out.cellK (List.mem_cons_of_mem _ (List.mem_cons_self ..)) (j := 0) rfl
            have KP1 := Hb.out.cellK (List.mem_cons_of_mem _ (List.mem_cons_self ..)) (j := 1) rfl
            have KP2 := Hb.out.cellK (List.mem_cons_of_mem _ (List.mem_cons_self ..)) (j := 2) rfl
            have KB0 := Hb.out.cellK (List.mem_cons_of_mem _ (List.mem_cons_of_mem _ (List.mem_cons_self ..))) (j := 0) rfl
            have KB1 := Hb.out.cellK (List.mem_cons_of_mem _ (List.mem_cons_of_mem _ (List.mem_cons_self ..))) (j := 1) rfl
            have KB2 := Hb.out.cellK (List.mem_cons_of_mem _ (List.mem_cons_of_mem _ (List.mem_cons_self ..))) (j := 2) rfl
            have KA0 := Hb.out.cellK (List.mem_cons_of_mem _ (List.mem_cons_of_mem _ (List.mem_cons_of_mem _ (List.mem_cons_self ..)))) (j := 0) rfl
            have KA1 := Hb.out.cellK (List.mem_cons_of_mem _ (List.mem_cons_of_mem _ (List.mem_cons_of_mem _ (List.mem_cons_self ..)))) (j := 1) rfl
            have KA2 := Hb.out.cellK (List.mem_cons_of_mem _ (List.mem_cons_of_mem _ (List.mem_cons_of_mem _ (List.mem_cons_self ..)))) (j := 2) rfl
            have hab := sameRoot_any (sa) (ba) (sa) (ba) Aa Ab (x.length) (ca) (x.length) (cb) x x v4 (Hb.out.sl (ρ := ⟨Aa, x.length, ca, x⟩) (by simp)) (Hb.out.sl (ρ := ⟨Ab, x.length, cb, x⟩) (by simp))
            rw [show (decide ((sa : Int) = sa) && (decide ((ba : Int) = ba) && (x == x))) = true by simp] at hab
            go_wp2_with fail
            refine hab.mono ?_; rintro y v5 ⟨rfl, b5⟩
            have Hc := Lib.hid (Hb.out.below b5)
            have KQ0 := cellB b5 KQ0
            have KQ1 := cellB b5 KQ1
            have KQ2 := cellB b5 KQ2
            have KP0 := cellB b5 KP0
            have KP1 := cellB b5 KP1
            have KP2 := cellB b5 KP2
            have hpq := sameRoot_any q.s q.b q.s q.b Ap Aq q.x.length cp q.x.length cq q.x q.x v5 (Hc.out.sl (ρ := ⟨Ap, q.x.length, cp, q.x⟩) (by simp)) (SQ.out.below b5)
            rw [show (decide (q.s = q.s) && (decide (q.b = q.b) && (q.x == q.x))) = true by simp] at hpq
            clear hab b5 KA0 KA1 KA2 KB0 KB1 KB2 Hb SQ
            go_wp2_with fail
            refine hpq.mono ?_; rintro y v6 ⟨rfl, b6⟩
            have He := Lib.hid (Hc.out.below b6)
            clear hpq b6 KQ0 KQ1 KQ2 KP0 KP1 KP2 Hc
            obtain ⟨k0, k1, k2, k3⟩ := He.out.cb
            have hsd := sameDisk_any (room := rD.room) (fuse := rD.fuse) He.out.dk He.out.r2.sl (fun e he => (He.out.r2.ok e he).1) He.out.eq
            go_wp2_with fail
            refine hsd.mono ?_; rintro y v7 ⟨rfl, b7⟩
            have HN := Lib.hid ((He.out.below b7).sub (L' := []) (K' := [(nq, nmsO)]) (fun ρ hr => by cases hr) (fun κ hk => by simp only [List.mem_singleton] at hk; subst hk; simp))
            clear hsd b7 k0 k1 k2 k3 He
            go_wp2_with fail
            go_roundw
            case rel => exact ⟨i + 1, rD, F3, _, _, _, es3, by omega, by omega, by go_num, HRn, HN⟩
            case measure => simp [intOf]; omega
        case first =>
          obtain ⟨bw, hbw⟩ : ∃ bw : Bool, bw = decide (kk = 1 ∨ kk = 2 ∨ kk = 3 ∨ kk = 4) := ⟨_, rfl⟩
          have HBW := Lib.hid hbw
          clear hbw
          go_step
          go_step
          go_cut [70] (fun s70 wx => s70 = .bool bw ∧ wx = w2)
          case first =>
            by_cases h4 : kk = 1 ∨ kk = 2 ∨ kk = 3 ∨ kk = 4
            · obtain rfl : bw = true := by rw [HBW.out]; simpa using h4
              rcases h4 with rfl | rfl | rfl | rfl
              all_goals (clear HBW; go_wp2_with fail; go_meet; exact ⟨rfl, rfl⟩)
            · obtain rfl : bw = false := by rw [HBW.out]; simpa using h4
              have q1 : (kk == 1) = false := by simp; omega
              have q2 : (kk == 2) = false := by simp; omega
              have q3 : (kk == 3) = false := by simp; omega
              have q4 : (kk == 4) = false := by simp; omega
              clear HBW
              go_wp2_with fail
              go_meet
              exact ⟨rfl, rfl⟩
          case rest =>
          obtain ⟨rfl, h9⟩ := hcut
          have h9 := h9.symm
          subst h9
          cases bw with
          | true =>
            clear HBW
            as_aux_lemma =>
              · skip
                obtain ⟨R, hR⟩ : ∃ R, R = writeF D d.r.b d.r.x := ⟨_, rfl⟩
                have HRn := Lib.hid (show R.1.room ≤ 65535 by rw [hR, writeF_room]; exact HRm.out)
                have HRR := Lib.hid hR.symm
                have HWX := Lib.hid (show R.2.1.x ≠ [] → R.2.1.x = d.r.x from fun h => by rw [hR] at h ⊢; exact write_x D d.r.b d.r.x h)
                have hpc := rWrite_any H2.out.dk d.r.s d.r.b d.r.A d.r.x.length d.r.c d.r.x (H2.out.old Hd.out.r.x.1) (by have := HX.out; omega)
                rw [← hR] at hpc
                clear hR
                obtain ⟨rD, rt, re⟩ := R
                simp only at HRn hpc
                go_wp2_with fail
                refine hpc.mono ?_; rintro y w3 ⟨A5, c5, F2, rfl, k4, k5, k6, k7⟩
                simp only [rtV]
                simp only at k4 k5
                have H3 := Lib.hid (((H2.out.step k5 k6).add (ρ := ⟨A5, rt.x.length, c5, rt.x⟩) k4).sub (K' := (qa, rtO 0 0 none 0 0) :: (qa + 1, rtO 0 0 none 0 0) :: (qo, Obj.cells #[.int .i64 d.k, .int .i64 d.n, .int .i64 d.r.s, .int .i64 d.r.b, .slice d.r.A d.r.x.length d.r.c, .int .u8 d.nm] 38) :: [(nq, nmsO)]) (fun ρ hr => hr) (fun κ hk => by simp only [List.mem_cons, List.not_mem_nil, or_false] at hk ⊢; rcases hk with h | h | h | h <;> simp [h]))
                have hrt := H3.out.rt (s2 := rt.s) (b2 := rt.b) (A2 := A5) (n2 := rt.x.length) (c2 := c5) (fun κ hk => by simp only [List.mem_cons, List.not_mem_nil, or_false] at hk; have h1 := HQ.out; have h2 := HQ2.out; rcases hk with h | h | h <;> (subst h; simp only; omega))
                obtain ⟨e1, e2, e3, e4⟩ := HOB.out _ _ k6
                have c2 := e2.trans c2
                have c3 := e3.trans c3
                have c4 := e4.trans c4
                have f0 := World.ownsRow.frozenAt hrt.2 0
                have f1 := World.ownsRow.frozenAt hrt.2 1
                have f2 := World.ownsRow.frozenAt hrt.2 2
                obtain ⟨z0, z1, z2⟩ := cells3 hrt.2
                have H4 := Lib.hid hrt.1
                clear hpc k4 k5 k6 k7 e1 e2 e3 e4 hrt c0 c2 c3 c4
                go_upto_region 20 with fail
                obtain ⟨w5, hw5⟩ : ∃ w5, w5 = set3 w3 qa (.int .i64 rt.s) (.int .i64 rt.b) (.slice A5 rt.x.length c5) := ⟨_, rfl⟩
                have hw5b : ((w3.setCell ⟨qa, 0, none⟩ (.int .i64 rt.s)).setCell ⟨qa, 1, none⟩ (.int .i64 rt.b)).setCell ⟨qa, 2, none⟩ (.slice A5 rt.x.length c5) = w5 := hw5.symm
                rw [← hw5] at H4
                rw [hw5b]
                clear hw5 hw5b f0 f1 f2 z0 z1 z2
                have c2 := H4.out.cellK (List.mem_cons_of_mem _ (List.mem_cons_of_mem _ (List.mem_cons_self ..))) (j := 2) rfl
                have c3 := H4.out.cellK (List.mem_cons_of_mem _ (List.mem_cons_of_mem _ (List.mem_cons_self ..))) (j := 3) rfl
                have c4 := H4.out.cellK (List.mem_cons_of_mem _ (List.mem_cons_of_mem _ (List.mem_cons_self ..))) (j := 4) rfl
                obtain ⟨k0, k1, k2, k3⟩ := H4.out.cb
                have hold := H4.out.old Hd.out.r.x.1
                have hdc := r6Write_any H4.out.gok H4.out.r2 H4.out.eq HGD.out HR3.out d.r.s d.r.b d.r.x.length d.r.x hold.1 (by have := HX.out; omega) HRR.out
                go_wp2_with fail
                refine hdc.mono ?_; rintro y w6 ⟨A3, n3, c3', es3, BA, bc, rfl, p1, p2, p4, p5, p3⟩
                simp only at p1 p2 p4 p5
                have H5 := Lib.hid (H4.out.below p3)
                have hrb : Rws F2 w6 BA rt.x.length bc (bytesV rt.x) := ⟨p4, fun hne a ha => by
                  have hx0 : rt.x ≠ [] := fun e => hne (by rw [e]; rfl)
                  have hBA := p5 hx0
                  rw [hBA] at ha p4
                  by_cases hd0 : bytesV d.r.x = []
                  · exact absurd (show bytesV rt.x = [] by rw [show rt.x = d.r.x from HWX.out hx0]; exact hd0) hne
                  · have := (hold.2 hd0 a ha)
                    exact ⟨Nat.lt_of_lt_of_le this.1 p3.size, this.2⟩⟩
                have H6 := Lib.hid ((H5.out.put (D2 := rD) p1 p2).sub (K' := (qa + 1, rtO 0 0 none 0 0) :: (qa, rtO rt.s rt.b A5 rt.x.length c5) :: (qo, Obj.cells #[.int .i64 d.k, .int .i64 d.n, .int .i64 d.r.s, .int .i64 d.r.b, .slice d.r.A d.r.x.length d.r.c, .int .u8 d.nm] 38) :: [(nq, nmsO)]) (fun ρ hr => hr) (fun κ hk => by simp only [List.mem_cons, List.not_mem_nil, or_false] at hk ⊢; rcases hk with h | h | h | h <;> simp [h]))
                have hrb2 := rws_grown (q := B) (ρ := ⟨BA, rt.x.length, bc, rt.x⟩) hrb (sl_box H5.out.box (nb4 _ _ _ _ _ _) (stored4R H5.out.box (.int .i64 rD.room) (.slice A3 n3 c3') (.int .i64 rD.fuse) (.bool rD.dark)).2 hrb.1) (stored4R H5.out.box (.int .i64 rD.room) (.slice A3 n3 c3') (.int .i64 rD.fuse) (.bool rD.dark)).2.size
                have H7 := Lib.hid (H6.out.add (ρ := ⟨BA, rt.x.length, bc, rt.x⟩) hrb2)
                have hrt := H7.out.rt (s2 := rt.s) (b2 := rt.b) (A2 := BA) (n2 := rt.x.length) (c2 := bc) (fun κ hk => by simp only [List.mem_cons, List.not_mem_nil, or_false] at hk; have h1 := HQ.out; have h2 := HQ2.out; rcases hk with h | h | h <;> (subst h; simp only; omega))
                have H8 := Lib.hid hrt.1
                have f0 := World.ownsRow.frozenAt H5.out.box 0
                have f1 := World.ownsRow.frozenAt H5.out.box 1
                have f2 := World.ownsRow.frozenAt H5.out.box 2
                have f3 := World.ownsRow.frozenAt H5.out.box 3
                obtain ⟨k0, k1, k2, k3⟩ := H5.out.cb
                have g0 := World.ownsRow.frozenAt hrt.2 0
                have g1 := World.ownsRow.frozenAt hrt.2 1
                have g2 := World.ownsRow.frozenAt hrt.2 2
                obtain ⟨z0, z1, z2⟩ := cells3 hrt.2
                obtain ⟨u0, u1, u2⟩ := cells3 (rtO_own (H5.out.held (q := qa + 1) (o := rtO 0 0 none 0 0) (by simp)) (H5.out.kb (qa + 1, rtO 0 0 none 0 0) (by simp)).2.2.2)
                have l0 := World.ownsRow.frozenAt (rtO_own (H5.out.held (q := qa + 1) (o := rtO 0 0 none 0 0) (by simp)) (H5.out.kb (qa + 1, rtO 0 0 none 0 0) (by simp)).2.2.2) 0
                have l1 := World.ownsRow.frozenAt (rtO_own (H5.out.held (q := qa + 1) (o := rtO 0 0 none 0 0) (by simp)) (H5.out.kb (qa + 1, rtO 0 0 none 0 0) (by simp)).2.2.2) 1
                have l2 := World.ownsRow.frozenAt (rtO_own (H5.out.held (q := qa + 1) (o := rtO 0 0 none 0 0) (by simp)) (H5.out.kb (qa + 1, rtO 0 0 none 0 0) (by simp)).2.2.2) 2
                unfold set4 at g0 g1 g2 z0 z1 z2
                clear hdc p1 p2 p3 p4 p5 hrt hrb hrb2 hold c2 c3 c4
                go_wp2_with fail
                go_meet
                exact ⟨rD, F2, A3, n3, c3', es3, re, rt.s, rt.b, rt.x, A5, c5, BA, bc, rfl, rfl, HRn, H8⟩
          | false =>
          have h4 : ¬ (kk = 1 ∨ kk = 2 ∨ kk = 3 ∨ kk = 4) := by have := HBW.out; simpa using this.symm
          clear HBW
          obtain h | h | h | h | h | h : kk = 5 ∨ kk = 6 ∨ kk = 7 ∨ kk = 8 ∨ kk = 9 ∨ (kk ≠ 5 ∧ kk ≠ 6 ∧ kk ≠ 7 ∧ kk ≠ 8 ∧ kk ≠ 9) := by omega
          · as_aux_lemma =>
              subst h
              obtain ⟨r, hr⟩ : ∃ r, r = appendD D nm d.r.x := ⟨_, rfl⟩
              have c1 := C1.out
              have hpc := Append_any H2.out.dk nm HNL.out (H2.out.old Hd.out.r.x.1).1 (fun a ha hne => ((H2.out.old Hd.out.r.x.1).2 (by simpa [bytesV] using hne) a ha).2) (by have := HX.out; omega)
              rw [← hr] at hpc
              have HRn := Lib.hid (show r.2.room ≤ 65535 by rw [hr]; rw [show (appendD D nm d.r.x).2.room = D.room from append_room D nm d.r.x]; exact HRm.out)
              have HHr := Lib.hid hr
              clear hr
              go_wp2_with fail
              refine hpc.mono ?_; rintro y w3 ⟨rfl, F2, k5, k6⟩
              have H3 := Lib.hid (H2.out.step k5 k6)
              obtain ⟨e1, e2, e3, e4⟩ := HOB.out _ _ k6
              have c1 := e1.trans C1.out
              have c4 := e4.trans c4
              have hdc := r2Append_any (room := D.room) (fuse := D.fuse) (dark := D.dark) H3.out.gok H3.out.r2 (HGD.out.srtE H3.out.eq) (by have h1 := HGD.out.fewE H3.out.eq; have h2 := slFE_len H3.out.r2.sl; omega) (by have := HGD.out.fuse; omega) nm HNL.out d.r.A d.r.x d.r.c (H3.out.old Hd.out.r.x.1).1 (by have := HX.out; omega) (HGD.out.eachE H3.out.eq HR3.out) (by rw [H3.out.eq]; have h1 := HGD.out.used; have h2 := HGD.out.room; omega) HGD.out.room (HGD.out.fewE H3.out.eq)
              rw [dk_mk6 H3.out.eq, ← HHr.out] at hdc
              obtain ⟨k0, k1, k2, k3⟩ := H3.out.cb
              clear hpc k5 k6 e1 e2 e3 e4
              go_wp2_with fail
              refine hdc.mono ?_; rintro y w4x ⟨A3, n3, cc3, es3, rfl, p1, p2, p3⟩
              have H4 := Lib.hid (H3.out.below p3)
              have H5 := Lib.hid (H4.out.put (D2 := r.2) p1 p2)
              have f0 := World.ownsRow.frozenAt H4.out.box 0
              have f1 := World.ownsRow.frozenAt H4.out.box 1
              have f2 := World.ownsRow.frozenAt H4.out.box 2
              have f3 := World.ownsRow.frozenAt H4.out.box 3
              obtain ⟨k0, k1, k2, k3⟩ := H4.out.cb
              clear hdc p1 p2 p3 c0 c1 c2 c3 c4
              go_wp2_with fail
              go_meet
              exact ⟨r.2, F2, A3, n3, cc3, es3, r.1, 0, 0, [], none, 0, none, 0, rfl, rfl, HRn, Lib.hid ((H5.out.add (ρ := ⟨none, 0, 0, ([] : List UInt8)⟩) ⟨Sl.nil _ _, fun h => absurd rfl h⟩).add (ρ := ⟨none, 0, 0, ([] : List UInt8)⟩) ⟨Sl.nil _ _, fun h => absurd rfl h⟩)⟩
          · as_aux_lemma =>
              subst h
              obtain ⟨r, hr⟩ : ∃ r, r = removeD D nm := ⟨_, rfl⟩
              have c1 := C1.out
              have hpc := Remove_any H2.out.dk nm
              rw [← hr] at hpc
              have HRn := Lib.hid (show r.2.room ≤ 65535 by rw [hr]; rw [show (removeD D nm).2.room = D.room from of_room _ _ _ _]; exact HRm.out)
              have HHr := Lib.hid hr
              clear hr
              go_wp2_with fail
              refine hpc.mono ?_; rintro y w3 ⟨rfl, F2, k5, k6⟩
              have H3 := Lib.hid (H2.out.step k5 k6)
              obtain ⟨e1, e2, e3, e4⟩ := HOB.out _ _ k6
              have c1 := e1.trans C1.out
              have c4 := e4.trans c4
              have hdc := r2Remove_any (room := D.room) (fuse := D.fuse) (dark := D.dark) H3.out.gok H3.out.r2 (HGD.out.srtE H3.out.eq) (by have h1 := HGD.out.fewE H3.out.eq; have h2 := slFE_len H3.out.r2.sl; omega) (by have := HGD.out.fuse; omega) nm
              rw [dk_mk6 H3.out.eq, ← HHr.out] at hdc
              obtain ⟨k0, k1, k2, k3⟩ := H3.out.cb
              clear hpc k5 k6 e1 e2 e3 e4
              go_wp2_with fail
              refine hdc.mono ?_; rintro y w4x ⟨A3, n3, cc3, es3, rfl, p1, p2, p3⟩
              have H4 := Lib.hid (H3.out.below p3)
              have H5 := Lib.hid (H4.out.put (D2 := r.2) p1 p2)
              have f0 := World.ownsRow.frozenAt H4.out.box 0
              have f1 := World.ownsRow.frozenAt H4.out.box 1
              have f2 := World.ownsRow.frozenAt H4.out.box 2
              have f3 := World.ownsRow.frozenAt H4.out.box 3
              obtain ⟨k0, k1, k2, k3⟩ := H4.out.cb
              clear hdc p1 p2 p3 c0 c1 c2 c3 c4
              go_wp2_with fail
              go_meet
              exact ⟨r.2, F2, A3, n3, cc3, es3, r.1, 0, 0, [], none, 0, none, 0, rfl, rfl, HRn, Lib.hid ((H5.out.add (ρ := ⟨none, 0, 0, ([] : List UInt8)⟩) ⟨Sl.nil _ _, fun h => absurd rfl h⟩).add (ρ := ⟨none, 0, 0, ([] : List UInt8)⟩) ⟨Sl.nil _ _, fun h => absurd rfl h⟩)⟩
          · as_aux_lemma =>
              subst h
              have c1 := C1.out
              have hpc := Arm_any H2.out.dk d.n Hd.out.n.2
              obtain ⟨rD, hrD⟩ : ∃ rD, rD = armD D d.n := ⟨_, rfl⟩
              rw [← hrD] at hpc
              have HRn := Lib.hid (show rD.room ≤ 65535 by rw [hrD]; unfold armD; split <;> exact HRm.out)
              have HV := Lib.hid (show rD.room = D.room ∧ rD.fs = D.fs ∧ rD.dark = D.dark ∧ rD.fuse = (if D.dark = true then D.fuse else max 0 d.n) by
                rw [hrD]
                unfold armD
                cases hk : D.dark with
                | true => simp [hk]
                | false => simp [hk])
              clear hrD
              go_wp2_with fail
              refine hpc.mono ?_; rintro y w3 ⟨rfl, k5, k6⟩
              have H3 := Lib.hid (H2.out.step k5 k6)
              obtain ⟨e1, e2, e3, e4⟩ := HOB.out _ _ k6
              have c1 := e1.trans C1.out
              have hdc := r2Arm_any (w := w3) (room := D.room) (A := A) (n := n) (c := c) (fuse := D.fuse) (dark := D.dark) d.n
              rw [← HV.out.2.2.2] at hdc
              obtain ⟨k0, k1, k2, k3⟩ := H3.out.cb
              clear hpc k5 k6 e1 e2 e3 e4
              go_wp2_with fail
              refine hdc.mono ?_; rintro y w4x ⟨rfl, p3⟩
              have H4 := Lib.hid (H3.out.below p3)
              have H5 := Lib.hid (H4.out.put (D2 := rD) H4.out.r2 (H4.out.eq.trans HV.out.2.1.symm))
              rw [HV.out.1, HV.out.2.2.1] at H5
              have f0 := World.ownsRow.frozenAt H4.out.box 0
              have f1 := World.ownsRow.frozenAt H4.out.box 1
              have f2 := World.ownsRow.frozenAt H4.out.box 2
              have f3 := World.ownsRow.frozenAt H4.out.box 3
              obtain ⟨k0, k1, k2, k3⟩ := H4.out.cb
              clear hdc p3 c0 c1 c2 c3 c4
              go_wp2_with fail
              go_meet
              exact ⟨rD, F, A, n, c, es, 0, 0, 0, [], none, 0, none, 0, rfl, rfl, HRn, Lib.hid ((H5.out.add (ρ := ⟨none, 0, 0, ([] : List UInt8)⟩) ⟨Sl.nil _ _, fun h => absurd rfl h⟩).add (ρ := ⟨none, 0, 0, ([] : List UInt8)⟩) ⟨Sl.nil _ _, fun h => absurd rfl h⟩)⟩
          · as_aux_lemma =>
              subst h
              have c1 := C1.out
              have H2b := Lib.hid (H2.out.alloc (.cells #[.int .i64 d.n, .int .i64 d.n, .int .i64 d.n, .int .i64 d.n] 3))
              go_upto_region 32 with fail
              obtain ⟨w3, hw3⟩ : ∃ w3, w3 = w2.alloc (.cells #[.int .i64 d.n, .int .i64 d.n, .int .i64 d.n, .int .i64 d.n] 3) := ⟨_, rfl⟩
              rw [← hw3] at H2b ⊢
              obtain ⟨qn, hqn⟩ : ∃ qn, qn = w2.heap.size := ⟨_, rfl⟩
              rw [← hqn] at H2b ⊢
              clear hw3 hqn c0 c1 c2 c3 c4
              have s4 := sl_four (H2b.out.held (List.mem_cons_self ..))
              have hnF := (H2b.out.kb _ (List.mem_cons_self ..)).2.1
              have hrg : ∀ x, x ∈ [d.n, d.n, d.n, d.n] → x ≤ 9223372036854775807 := fun x hx => by
                have := Hd.out.n.2
                simp only [List.mem_cons, List.not_mem_nil, or_false, or_self] at hx
                subst hx
                exact this
              have hpc := Crash_any H2b.out.dk (ks := [d.n, d.n, d.n, d.n]) (ts := [d.n, d.n, d.n, d.n]) s4 s4 (fun a ha _ => by cases ha; exact hnF) (fun a ha _ => by cases ha; exact hnF) (by omega) (by omega) hrg hrg
              obtain ⟨rD, hrD⟩ : ∃ rD, rD = crashD D [d.n, d.n, d.n, d.n] [d.n, d.n, d.n, d.n] := ⟨_, rfl⟩
              rw [← hrD] at hpc
              have HRn := Lib.hid (show rD.room ≤ 65535 by rw [hrD]; exact HRm.out)
              have HV := Lib.hid (show rD.room = D.room ∧ rD.fs = crashF D.fs [d.n, d.n, d.n, d.n] [d.n, d.n, d.n, d.n] ∧ rD.dark = false ∧ rD.fuse = -1 by rw [hrD]; exact ⟨rfl, rfl, rfl, rfl⟩)
              clear hrD s4 hnF
              go_wp2_with fail
              refine hpc.mono ?_; rintro y w4 ⟨rfl, F2, k5, k6⟩
              have H3 := Lib.hid (H2b.out.step k5 k6)
              have s4 := sl_four (H3.out.held (List.mem_cons_self ..))
              have hdc := r2Crash_any (room := D.room) (fuse := D.fuse) (dark := D.dark) H3.out.gok H3.out.r2 (by have h1 := HGD.out.fewE H3.out.eq; have h2 := slFE_len H3.out.r2.sl; omega) (fun e he => ⟨HGD.out.safe e.f (by rw [← H3.out.eq]; exact List.mem_map_of_mem he), by have := HGD.out.eachE H3.out.eq HR3.out e he; omega⟩) (some ⟨qn, 0, none⟩) (some ⟨qn, 0, none⟩) 4 4 4 4 [d.n, d.n, d.n, d.n] [d.n, d.n, d.n, d.n] s4 s4 hrg hrg
              obtain ⟨k0, k1, k2, k3⟩ := H3.out.cb
              clear hpc k5 k6 hrg
              go_wp2_with fail
              refine hdc.mono ?_; rintro y w4x ⟨A3, c3', es3, rfl, p1, p2, p3⟩
              have H4 := Lib.hid (H3.out.below p3)
              have H5 := Lib.hid (H4.out.put (D2 := rD) p1 (p2.trans (by rw [H4.out.eq, HV.out.2.1])))
              rw [HV.out.1, HV.out.2.2.1, HV.out.2.2.2] at H5
              have f0 := World.ownsRow.frozenAt H4.out.box 0
              have f1 := World.ownsRow.frozenAt H4.out.box 1
              have f2 := World.ownsRow.frozenAt H4.out.box 2
              have f3 := World.ownsRow.frozenAt H4.out.box 3
              obtain ⟨k0, k1, k2, k3⟩ := H4.out.cb
              clear hdc p1 p2 p3 s4
              go_wp2_with fail
              go_meet
              exact ⟨rD, F2, A3, n, c3', es3, 0, 0, 0, [], none, 0, none, 0, rfl, rfl, HRn, Lib.hid (((H5.out.add (ρ := ⟨none, 0, 0, ([] : List UInt8)⟩) ⟨Sl.nil _ _, fun h => absurd rfl h⟩).add (ρ := ⟨none, 0, 0, ([] : List UInt8)⟩) ⟨Sl.nil _ _, fun h => absurd rfl h⟩).sub (K' := (qa + 1, rtO 0 0 none 0 0) :: (qa, rtO 0 0 none 0 0) :: (qo, Obj.cells #[.int .i64 d.k, .int .i64 d.n, .int .i64 d.r.s, .int .i64 d.r.b, .slice d.r.A d.r.x.length d.r.c, .int .u8 d.nm] 38) :: [(nq, nmsO)]) (fun ρ hr => hr) (fun κ hk => List.mem_cons_of_mem _ hk))⟩
          · as_aux_lemma =>
              subst h
              obtain ⟨r, hr⟩ : ∃ r, r = cutD D nm d.n := ⟨_, rfl⟩
              have c1 := C1.out
              have hpc := Cut_any H2.out.dk nm d.n
              rw [← hr] at hpc
              have HRn := Lib.hid (show r.2.room ≤ 65535 by rw [hr]; rw [show (cutD D nm d.n).2.room = D.room from of_room _ _ _ _]; exact HRm.out)
              have HHr := Lib.hid hr
              clear hr
              go_wp2_with fail
              refine hpc.mono ?_; rintro y w3 ⟨rfl, F2, k5, k6⟩
              have H3 := Lib.hid (H2.out.step k5 k6)
              obtain ⟨e1, e2, e3, e4⟩ := HOB.out _ _ k6
              have c1 := e1.trans C1.out
              have c4 := e4.trans c4
              have hdc := r2Cut_any (room := D.room) (fuse := D.fuse) (dark := D.dark) H3.out.gok H3.out.r2 (HGD.out.srtE H3.out.eq) (by have h1 := HGD.out.fewE H3.out.eq; have h2 := slFE_len H3.out.r2.sl; omega) (by have := HGD.out.fuse; omega) nm d.n (fun e he => by have := HGD.out.eachE H3.out.eq HR3.out e he; omega)
              rw [dk_mk6 H3.out.eq, ← HHr.out] at hdc
              obtain ⟨k0, k1, k2, k3⟩ := H3.out.cb
              clear hpc k5 k6 e1 e2 e3 e4
              go_wp2_with fail
              refine hdc.mono ?_; rintro y w4x ⟨A3, n3, cc3, es3, rfl, p1, p2, p3⟩
              have H4 := Lib.hid (H3.out.below p3)
              have H5 := Lib.hid (H4.out.put (D2 := r.2) p1 p2)
              have f0 := World.ownsRow.frozenAt H4.out.box 0
              have f1 := World.ownsRow.frozenAt H4.out.box 1
              have f2 := World.ownsRow.frozenAt H4.out.box 2
              have f3 := World.ownsRow.frozenAt H4.out.box 3
              obtain ⟨k0, k1, k2, k3⟩ := H4.out.cb
              clear hdc p1 p2 p3 c0 c1 c2 c3 c4
              go_wp2_with fail
              go_meet
              exact ⟨r.2, F2, A3, n3, cc3, es3, r.1, 0, 0, [], none, 0, none, 0, rfl, rfl, HRn, Lib.hid ((H5.out.add (ρ := ⟨none, 0, 0, ([] : List UInt8)⟩) ⟨Sl.nil _ _, fun h => absurd rfl h⟩).add (ρ := ⟨none, 0, 0, ([] : List UInt8)⟩) ⟨Sl.nil _ _, fun h => absurd rfl h⟩)⟩
          · as_aux_lemma =>
              obtain ⟨h5, h6, h7, h8, h9⟩ := h
              have HRn := HRm
              have q5 : (kk == 5) = false := by simpa using h5
              have q6 : (kk == 6) = false := by simpa using h6
              have q7 : (kk == 7) = false := by simpa using h7
              have q8 : (kk == 8) = false := by simpa using h8
              have q9 : (kk == 9) = false := by simpa using h9
              go_wp2_with fail
              go_meet
              exact ⟨D, F, A, n, c, es, 0, 0, 0, [], none, 0, none, 0, rfl, rfl, HRn, Lib.hid ((H2.out.add (ρ := ⟨none, 0, 0, ([] : List UInt8)⟩) ⟨Sl.nil _ _, fun h => absurd rfl h⟩).add (ρ := ⟨none, 0, 0, ([] : List UInt8)⟩) ⟨Sl.nil _ _, fun h => absurd rfl h⟩)⟩
    · have Hf := H
      by_cases h1 : (i : Int) < (n0 : Int)
      · have h2 : ¬ (i : Int) < 50 := fun h => hgo ⟨h1, h⟩
        clear hgo
        go_wp2_with fail
        refine (awake6_any _).mono ?_; rintro x wl ⟨rfl, hbl⟩
        go_wp2_with fail
        go_ret
        exact ⟨rfl, Hf.out.bel.trans (hbl.mono Hf.out.bel.size)⟩
      · clear hgo
        go_wp2_with fail
        refine (awake6_any _).mono ?_; rintro x wl ⟨rfl, hbl⟩
        go_wp2_with fail
        go_ret
        exact ⟨rfl, Hf.out.bel.trans (hbl.mono Hf.out.bel.size)⟩
end Go.Proofs.YtemegkapmgcffaaGreat
