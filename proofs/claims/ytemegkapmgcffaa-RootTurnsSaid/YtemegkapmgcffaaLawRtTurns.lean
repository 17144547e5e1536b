import Derived.Test.YtemegkapmgcffaaPureRootB
import Derived.Test.YtemegkapmgcffaaRkL
import Derived.Test.YtemegkapmgcffaaRowsR
/- RootTurns: the walk (printed by wip/gen/grtturns.py). -/
namespace Go.Proofs.Ytemegkapmgcffaa
open Go.RowKit
set_option linter.unusedSimpArgs false
set_option linter.unusedVariables false

theorem row_cell {w : World} {q j : Nat} {vs : Array Value} {t : TypeId} {v : Value} (h : w.heap[q]? = some (.cells vs t)) (hv : vs[j]? = some v) : w.cell? ⟨q, j, none⟩ = some v := by
  rw [cell_of_row w q j vs t (0, 0) h]
  exact hv
theorem sread_eq {n : Nat} {b c b' c' : Slot} (h : if n % 2 = 0 then b' = b else c' = c) : sread (if n % 2 = 0 then b' else c') = sread (if n % 2 = 0 then b else c) := by
  split at h
  · rw [if_pos (by assumption), if_pos (by assumption), h]
  · rw [if_neg (by assumption), if_neg (by assumption), h]
theorem read_n {room fuse : Int} {a b c : Slot} (n : Nat) : readD ⟨room, fuse, false, mkS a b c⟩ (rnm n) = sread (if n % 2 = 0 then b else c) := by
  unfold rnm
  split
  · exact read_0
  · exact read_1
theorem St.count {n : Nat} {now ahead : Rt} {b c : Slot} (h : St n now ahead b c) : (mkS none b c).length = min n 2 := by
  obtain ⟨h0, h | ⟨rfl, h1, rfl, rfl⟩ | ⟨h2, h3, h4, h5, rfl, rfl⟩⟩ := h
  · obtain ⟨rfl, rfl, rfl, rfl⟩ := h
    rfl
  · rfl
  · have : min n 2 = 2 := by omega
    rw [this]
    by_cases hn : n % 2 = 0 <;> simp [hn, mkS, slF, fileR]
set_option maxRecDepth 100000 in
set_option maxHeartbeats 32000000 in
theorem turns6_any {W : World} {A : Option Addr} {m c : Nat} {es : List Ro} (s : Sl W 3 A m c (flatRo es)) (ok : ∀ e, e ∈ es → OkRo W e) (hn : m ≤ 9223372036854775807) :
    Calls Try.prog 5 #[.slice A m c] W fun x w' => x = .returned (.bool true) ∧ Below W.heap.size W w' := by
  have hln := slR_len s
  have S := Lib.hid s
  have OK := Lib.hid ok
  have Hln := Lib.hid hln
  clear s ok hln
  have hnew : newD 1048576 = ⟨1048576, -1, false, mkS none none none⟩ := rfl
  go_enter Try.func5, Try.ntmps5
  go_wp2_with fail
  refine (new_dsk (Below.refl _ _) (by decide)).mono ?_; rintro x w0 ⟨p, rfl, h0⟩
  rw [hnew] at h0
  have h1 := (DskM.of h0).alloc (.cells #[.string (bstr rn0), .string (bstr rn1)] 9)
  obtain ⟨nb, hnb⟩ : ∃ nb, nb = w0.heap.size := ⟨_, rfl⟩
  rw [← hnb] at h1
  have H1 := Lib.hid h1
  clear h0 h1 hnew
  go_wp2_with fail
  rw [← hnb]
  go_loopw [6, 7] (fun s6 s7 wx => ∃ (n i : Nat) (now ahead : Rt) (b c : Slot), i ≤ m ∧ i ≤ 20 ∧ n ≤ i ∧ s6 = .int .i64 (n : Int) ∧ s7 = .int .i64 (i : Int) ∧ Hid (St n now ahead b c ∧ now.x.length ≤ 100 ∧ ahead.x.length ≤ 100) ∧ Hid (DskM W wx p ⟨1048576, -1, false, mkS none b c⟩ [] [(nb, .cells #[.string (bstr rn0), .string (bstr rn1)] 9)])) (fun _ iv _ => 20 - (intOf iv).toNat)
  case atStart => exact ⟨0, 0, rt0, rt0, none, none, by omega, by omega, by omega, rfl, rfl, Lib.hid ⟨⟨rfl, .inl ⟨rfl, rfl, rfl, rfl⟩⟩, by decide, by decide⟩, H1⟩
  case round =>
    obtain ⟨n, i, now, ahead, b, c, hi, hi20, hni, rfl, rfl, HS, HI⟩ := hrel
    clear H1 hnb
    by_cases g1 : (i : Int) < (m : Int)
    · by_cases g2 : (i : Int) < 20
      · obtain ⟨d, hd⟩ := get_some es i (by rw [Hln.out]; omega)
        have hs := S.out.below HI.out.bel
        obtain ⟨ad, rfl⟩ := slR_addr hs hd
        obtain ⟨y0, y1, y2⟩ := slR_three hs hd
        have hin : (0 : Int) ≤ (i : Int) ∧ (i : Int) < (m : Int) := by omega
        have Hd := Lib.hid (OK.out d (List.mem_of_getElem? hd))
        have Hhd := Lib.hid hd
        clear hs hd
        by_cases g3 : (100 : Int) < (d.x.length : Int)
        · go_wp2_with fail
          go_roundw
          case rel => exact ⟨n, i + 1, now, ahead, b, c, by omega, by omega, by omega, rfl, by go_num, HS, HI⟩
          case measure => simp [intOf]; omega
        · obtain ⟨k2, hk2⟩ : ∃ k2, k2 = n % 2 := ⟨_, rfl⟩
          have e2 : (n : Int) % 2 = (k2 : Int) := by omega
          have hk3 : (0 : Int) ≤ (k2 : Int) ∧ (k2 : Int) < 2 := by omega
          have hnm : wr.cell? ⟨nb, k2, none⟩ = some (.string (bstr (rnm n))) := by
            refine row_cell (HI.out.held (List.mem_cons_self ..)) ?_
            unfold rnm
            rw [← hk2]
            obtain rfl | rfl : k2 = 0 ∨ k2 = 1 := by omega
            · rfl
            · rfl
          obtain ⟨bs, e, hrd⟩ : ∃ bs e, sread (if n % 2 = 0 then b else c) = (bs, e) := ⟨_, _, rfl⟩
          have hc1 := dread_m HI.out rfl ((read_n n).trans hrd)
          have HRD := Lib.hid hrd
          clear hrd hk2
          go_wp2_with fail
          refine hc1.mono ?_; rintro x w1 ⟨B1, c1, rfl, h1⟩
          have h1' := h1.old (ρ := ⟨d.A, d.x.length, d.c, d.x⟩) Hd.out.x.1
          have HM1 := Lib.hid h1'
          obtain ⟨y0, y1, y2⟩ := slR_three (S.out.below HM1.out.bel) Hhd.out
          clear hc1 h1 h1' hnm
          rcases HS.out.1.step HS.out.2.1 HS.out.2.2 (by decide : 100 ≤ 1000) (room := 1048576) (by decide) d.b d.x (by omega) with ⟨j1, j2⟩ | ⟨hk, b', c', j2, j3, j4⟩
          · have hc2 := rwrite_m HM1.out d.s d.b (List.mem_cons_self ..) (by show d.x.length ≤ _; omega) j2
            clear j1 j2
            go_wp2_with fail
            refine hc2.mono ?_; rintro x w2 ⟨B2, c2, rfl, h2⟩
            simp only [rt0] at h2 ⊢
            have h3 := h2.alloc (.cells #[.int .i64 0, .int .i64 0, .slice B2 0 c2] 24)
            have HN := Lib.hid (h3.nil.subK (K' := [(nb, .cells #[.string (bstr rn0), .string (bstr rn1)] 9)]) (fun κ hk => List.mem_cons_of_mem _ hk))
            clear hc2 h2 h3 y0 y1 y2 hin hk3
            go_wp2_with fail
            go_roundw
            case rel => exact ⟨n, i + 1, now, ahead, b, c, by omega, by omega, by omega, rfl, by go_num, HS, HN⟩
            case measure => simp [intOf]; omega
          · have hc2 := rwrite_m HM1.out d.s d.b (List.mem_cons_self ..) (by show d.x.length ≤ _; omega) j2
            have J3 := Lib.hid j3
            have hrd2 : sread (if n % 2 = 0 then b' else c') = (bs, e) := (sread_eq j4).trans HRD.out
            have HRD2 := Lib.hid hrd2
            clear j2 j3 j4 hk hrd2
            go_wp2_with fail
            refine hc2.mono ?_; rintro x w2 ⟨B2, c2, rfl, h2⟩
            clear hc2 y0 y1 y2
            have q0 := box_cellsR w2 [.int .i64 ((n : Int) + 1), .int .i64 d.b, .slice B2 d.x.length c2] 24 0 _ rfl
            have q1 := box_cellsR w2 [.int .i64 ((n : Int) + 1), .int .i64 d.b, .slice B2 d.x.length c2] 24 1 _ rfl
            have q2 := box_cellsR w2 [.int .i64 ((n : Int) + 1), .int .i64 d.b, .slice B2 d.x.length c2] 24 2 _ rfl
            have qb := below_alloc1 w2 (.cells #[.int .i64 ((n : Int) + 1), .int .i64 d.b, .slice B2 d.x.length c2] 24)
            have h3 := h2.alloc (.cells #[.int .i64 ((n : Int) + 1), .int .i64 d.b, .slice B2 d.x.length c2] 24)
            go_upto_region 13 with fail
            obtain ⟨w3, hw3⟩ : ∃ w3, w3 = w2.alloc (.cells #[.int .i64 ((n : Int) + 1), .int .i64 d.b, .slice B2 d.x.length c2] 24) := ⟨_, rfl⟩
            have hTw3 : (w2.alloc (.cells [Value.int .i64 ((n : Int) + 1), .int .i64 d.b, .slice B2 d.x.length c2].toArray 24)) = w3 := hw3.symm
            rw [hTw3] at q0 q1 q2
            rw [← hw3] at qb h3 ⊢
            clear hTw3 hw3
            have Hq := Lib.hid (show (w2.heap.size, Obj.cells #[.int .i64 ((n : Int) + 1), .int .i64 d.b, .slice B2 d.x.length c2] 24) ∈ (w2.heap.size, Obj.cells #[.int .i64 ((n : Int) + 1), .int .i64 d.b, .slice B2 d.x.length c2] 24) :: [(nb, Obj.cells #[.string (bstr rn0), .string (bstr rn1)] 9)] from List.mem_cons_self ..)
            have HM3 := Lib.hid h3
            have hc3 := dread_m HM3.out rfl ((read_n n).trans HRD2.out)
            clear h2 h3 q0 q1 q2 qb
            have hw1 : IntKind.i64.wrap ((n : Int) + 1) = ((n + 1 : Nat) : Int) := by rw [IntKind.wrap_i64]; omega
            go_wp2_with fail
            refine hc3.mono ?_; rintro x w4 ⟨B3, c3, rfl, h4⟩
            obtain ⟨u, hu⟩ : ∃ u, usedF (mkS none b' c') = u := ⟨_, rfl⟩
            have hc4 := used_m h4 hu
            clear hc3
            go_wp2_with fail
            refine hc4.mono ?_; rintro x w5 ⟨rfl, h5⟩
            have hcn : (mkS none b' c').length = min (n + 1) 2 := J3.out.count
            obtain ⟨L2, hL2⟩ : ∃ L2, L2 = min (n + 1) 2 := ⟨_, rfl⟩
            have hcn2 : (mkS none b' c').length = L2 := hcn.trans hL2.symm
            have hc5 := list_m h5 hcn2
            clear hc4 h4
            go_wp2_with fail
            refine hc5.mono ?_; rintro x w6 ⟨B5, c5, rfl, h6⟩
            have hro := J3.out.root
            have hc6 := rread_m h6 (readRD_S.trans (by rw [hro]))
            clear hc5 h5
            go_wp2_with fail
            refine hc6.mono ?_; rintro x w7 ⟨B6, c6, rfl, h7⟩
            clear hc6 h6
            have p0 := box_cellsR w7 [.int .i64 ((n : Int) + 1), .int .i64 d.b, .slice B6 d.x.length c6] 24 0 _ rfl
            have p1 := box_cellsR w7 [.int .i64 ((n : Int) + 1), .int .i64 d.b, .slice B6 d.x.length c6] 24 1 _ rfl
            have p2 := box_cellsR w7 [.int .i64 ((n : Int) + 1), .int .i64 d.b, .slice B6 d.x.length c6] 24 2 _ rfl
            have pb := below_alloc1 w7 (.cells #[.int .i64 ((n : Int) + 1), .int .i64 d.b, .slice B6 d.x.length c6] 24)
            have h8 := h7.alloc (.cells #[.int .i64 ((n : Int) + 1), .int .i64 d.b, .slice B6 d.x.length c6] 24)
            go_upto_region 18 with fail
            obtain ⟨w8, hw8⟩ : ∃ w8, w8 = w7.alloc (.cells #[.int .i64 ((n : Int) + 1), .int .i64 d.b, .slice B6 d.x.length c6] 24) := ⟨_, rfl⟩
            have hTw8 : (w7.alloc (.cells [Value.int .i64 ((n : Int) + 1), .int .i64 d.b, .slice B6 d.x.length c6].toArray 24)) = w8 := hw8.symm
            rw [hTw8] at p0 p1 p2
            rw [← hw8] at pb h8 ⊢
            clear hTw8 hw8
            have hq8 := h8.held (List.mem_cons_of_mem _ Hq.out)
            have q0 := row_cell hq8 (j := 0) rfl
            have q1 := row_cell hq8 (j := 1) rfl
            have q2 := row_cell hq8 (j := 2) rfl
            have s1 := h8.sl (List.mem_cons_of_mem _ (List.mem_cons_self ..))
            have s2 := h8.sl (List.mem_cons_of_mem _ (List.mem_cons_of_mem _ (List.mem_cons_of_mem _ (List.mem_cons_of_mem _ (List.mem_cons_self ..)))))
            have HM8 := Lib.hid h8
            have hsb := sameBytes_any B1 B3 bs.length c1 bs.length c3 bs bs w8 s2 s1
            have hbb : (bs == bs) = true := by simp
            rw [hbb] at hsb
            have hee : ((n : Int) + 1 == ((n + 1 : Nat) : Int)) = true := by simp
            clear h7 pb hq8 s1 s2
            go_wp2_with fail
            refine hsb.mono ?_; rintro x w9 ⟨rfl, rfl⟩
            clear hsb
            have sA := HM8.out.sl (List.mem_cons_self ..)
            have sB := HM8.out.sl (List.mem_cons_of_mem _ (List.mem_cons_of_mem _ (List.mem_cons_self ..)))
            have hsr := sameRoot_any ((n : Int) + 1) d.b ((n : Int) + 1) d.b B6 B2 d.x.length c6 d.x.length c2 d.x d.x w8 sA sB
            have htt : (decide ((n : Int) + 1 = (n : Int) + 1) && (decide (d.b = d.b) && (d.x == d.x))) = true := by simp
            rw [htt] at hsr
            have hpp : decide ((0 : Int) < (n : Int) + 1) = true := decide_eq_true (by omega)
            go_wp2_with fail
            refine hsr.mono ?_; rintro x w10 ⟨rfl, b10⟩
            have h10 := HM8.out.below b10
            clear hsr sA sB htt b10 q0 q1 q2 p0 p1 p2
            have hc7 := used_m h10 hu
            go_wp2_with fail
            refine hc7.mono ?_; rintro x w11 ⟨rfl, h11⟩
            have hc8 := list_m h11 hcn2
            clear hc7 h10
            go_wp2_with fail
            refine hc8.mono ?_; rintro x w12 ⟨B8, c8, rfl, h12⟩
            have hmm : min ((n + 1 : Nat) : Int) 2 = (L2 : Int) := by omega
            have HN := Lib.hid (h12.nil.subK (K' := [(nb, .cells #[.string (bstr rn0), .string (bstr rn1)] 9)]) (fun κ hk => List.mem_cons_of_mem _ (List.mem_cons_of_mem _ hk)))
            clear hc8 h11 h12
            go_wp2_with fail
            go_roundw
            case rel => exact ⟨n + 1, i + 1, ⟨(n : Int) + 1, d.b, d.x⟩, now, b', c', by omega, by omega, by omega, by go_num, by go_num, Lib.hid ⟨J3.out, by show d.x.length ≤ 100; omega, HS.out.2.1⟩, HN⟩
            case measure => simp [intOf]; omega
      · obtain rfl : i = 20 := by omega
        go_wp2_with fail
        refine (awake6_any wr).mono ?_; rintro e wz ⟨rfl, bz⟩
        go_wp2_with fail
        go_ret
        exact ⟨rfl, HI.out.bel.trans (bz.mono HI.out.bel.size)⟩
    · obtain rfl : i = m := by omega
      go_wp2_with fail
      refine (awake6_any wr).mono ?_; rintro e wz ⟨rfl, bz⟩
      go_wp2_with fail
      go_ret
      exact ⟨rfl, HI.out.bel.trans (bz.mono HI.out.bel.size)⟩
end Go.Proofs.Ytemegkapmgcffaa
