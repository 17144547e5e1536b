import Derived.Test.YtemegkapmgcffaaPureLeaves
/- DiskLeaves: the walk. -/
namespace Go.Proofs.Ytemegkapmgcffaa
open Go.RowKit
set_option linter.unusedSimpArgs false
set_option linter.unusedVariables false

theorem str_to (l : List UInt8) (k : Nat) (hk : k ≤ l.length) (w : World) : (Instr.slice 9 (.string (bstr l)) none (some (.int .i64 (k : Int))) none).run Try.prog w = .ok (.string (bstr (l.take k))) w := by
  have hs : (bstr l).size = l.length := rfl
  rw [run_slice_string_to_if (h := Try.underlying9), if_pos ⟨by omega, by rw [hs]; omega⟩]
  congr 2
  apply ByteArray.ext
  rw [ByteArray.data_extract]
  simp [bstr, List.extract_toArray]
/-- a row's i-th one -/
theorem Rw.at {F : Nat → Prop} {w : World} {A : Option Addr} {n c : Nat} {vs : List Value} (h : Rw F w A n c vs) {i : Nat} {v : Value} (hv : vs[i]? = some v) : ∃ ad, A = some ad ∧ w.cell? (ad.add i) = some v := h.1.cells i v hv
set_option maxRecDepth 100000 in
set_option maxHeartbeats 8000000 in
theorem leaves_any {W : World} {A K T : Option Addr} {n c nk ck nt ct : Nat} {es : List Ded} {ks ts : List Int} (s : Sl W 7 A n c (flatD es)) (ok : ∀ e, e ∈ es → OkDed W e) (hn : n ≤ 9223372036854775807) (sk : Sl W 1 K nk ck (intsV ks)) (st : Sl W 1 T nt ct (intsV ts)) (hk : nk ≤ 9223372036854775807) (ht : nt ≤ 9223372036854775807) (hks : I64 ks) (hts : I64 ts) :
    Calls Try.prog 15 #[.slice A n c, .slice K nk ck, .slice T nt ct] W fun x w' => x = .returned (.bool true) ∧ Below W.heap.size W w' := by
  have SK := Lib.hid sk
  have ST := Lib.hid st
  have IK := Lib.hid (fun x hx => (hks x hx).2)
  have IT := Lib.hid (fun x hx => (hts x hx).2)
  have OK := Lib.hid (fun (h : ks ≠ []) => sl_old sk (by simpa [intsV] using h))
  have OT := Lib.hid (fun (h : ts ≠ []) => sl_old st (by simpa [intsV] using h))
  clear sk st hks hts
  go_enter Try.func15, Try.ntmps15
  go_wp2_with fail
  refine (done_any s ok hn (by decide)).mono ?_; rintro x w0 ⟨p, rfl, h0⟩
  obtain ⟨D, hD⟩ : ∃ D, D = doneP (newD 1048576) es 40 := ⟨_, rfl⟩
  rw [← hD] at h0
  obtain ⟨F0, d0, b0⟩ := h0
  have D0 := Lib.hid d0
  have B0 := Lib.hid b0
  clear hD d0 b0 s ok
  go_wp2_with fail
  refine (Down_any D0.out).mono ?_; rintro x w1 ⟨rfl, rfl⟩
  cases hdk : D.dark with
  | true =>
    have hdk2 := hdk
    clear hdk
    go_wp2_with fail
    refine (awake2_any _).mono ?_; rintro x w1 ⟨rfl, hb⟩
    go_wp2_with fail
    go_ret
    exact ⟨rfl, B0.out.trans (hb.mono B0.out.size)⟩
  | false =>
    have Hdk := Lib.hid hdk
    clear hdk
    go_wp2_with fail
    refine (snap_any D0.out).mono ?_; rintro x w1 ⟨A1, a1, A2, a2, A3, a3, rfl, r1, r2, r3, hb1⟩
    have B1 := Lib.hid (B0.out.trans (hb1.mono B0.out.size))
    have D1 := Lib.hid (D0.out.below hb1)
    have R1 := Lib.hid r1
    have R2 := Lib.hid r2
    have R3 := Lib.hid r3
    clear r1 r2 r3 hb1
    go_wp2_with fail
    have hF0 : ∀ q, F0 q → W.heap.size ≤ q := fun q hq => (D0.out.bound q hq).1
    refine (Crash_any D1.out (SK.out.below B1.out) (ST.out.below B1.out) (fun a ha hne hf => by have := OK.out hne a ha; have := hF0 _ hf; omega) (fun a ha hne hf => by have := OT.out hne a ha; have := hF0 _ hf; omega) hk ht IK.out IT.out).mono ?_
    rintro x w2 ⟨rfl, F1, d2, c2⟩
    have hb2 := B1.out.trans (c2.bel (fun q hq => hF0 q hq) B1.out.size)
    have r1 := R1.out.step c2
    have r2 := R2.out.step c2
    have r3 := R3.out.step c2
    have D2 := Lib.hid d2
    have hlen : (crashD D ks ts).fs.length = D.fs.length := crash_len _ _ _
    clear d2 c2 D1 B1 R1 R2 R3
    go_wp2_with fail
    refine (snap_any D2.out).mono ?_; rintro x w3 ⟨A4, a4, A5, a5, A6, a6, rfl, r4, r5, r6, hb3⟩
    rw [hlen] at r4 r5 r6
    rw [hlen]
    have B3 := Lib.hid (hb2.trans (hb3.mono hb2.size))
    have D3 := Lib.hid (D2.out.below hb3)
    have R1 := Lib.hid (r1.below hb3)
    have R2 := Lib.hid (r2.below hb3)
    have R3 := Lib.hid (r3.below hb3)
    have R4 := Lib.hid r4
    have R5 := Lib.hid r5
    have R6 := Lib.hid r6
    clear r1 r2 r3 r4 r5 r6 hb2 hb3 D2 hlen
    obtain ⟨n0, hn0⟩ : ∃ n0, n0 = D.fs.length := ⟨_, rfl⟩
    rw [← hn0] at R1 R2 R3 R4 R5 R6
    rw [← hn0]
    have Hn0 := Lib.hid hn0
    have hn200 : n0 ≤ 200 := by rw [hn0]; exact D0.out.good.few
    clear hn0
    go_wp2_with fail
    refine (Down_any D3.out).mono ?_; rintro x w4 ⟨rfl, rfl⟩
    have hcd : (crashD D ks ts).dark = false := rfl
    rw [hcd]
    clear hcd
    go_wp2_with fail
    go_loopw [57] (fun s57 wx => ∃ i : Nat, i ≤ n0 ∧ s57 = .int .i64 (i : Int) ∧ Hid (Below w3.heap.size w3 wx)) (fun iv _ => n0 - (intOf iv).toNat)
    case atStart => exact ⟨0, by omega, rfl, Lib.hid (Below.refl _ _)⟩
    case round =>
      obtain ⟨i, hi, rfl, HB⟩ := hrel
      by_cases h1 : (i : Int) < (n0 : Int)
      · obtain ⟨f, hf⟩ := get_some D.fs i (by rw [← Hn0.out]; omega)
        have hsf := D0.out.good.safe f (List.mem_of_getElem? hf)
        have Hbl := Lib.hid (show f.b.length ≤ 16777216 by
          have h5 := used_set (f' := ⟨f.nm, [], 0⟩) hf
          have h6 := D0.out.good.used
          have h7 := D0.out.good.room
          simp only [List.length_nil] at h5
          omega)
        have hso := D0.out.good.srt
        have hso2 := D3.out.good.srt
        obtain ⟨e, k, hl, he1, he2, he3, he4⟩ := left_shape f (toldI ks i) (toldI ts i) hsf
        have hcf : (crashD D ks ts).fs[i]? = some ⟨f.nm, f.b.take e ++ List.replicate k 0, e + k⟩ := by rw [← hl]; exact crash_get hf
        have v1 : (nmV D.fs)[i]? = some (.string (bstr f.nm)) := by unfold nmV; rw [List.getElem?_map, hf]; rfl
        have v2 : (txV D)[i]? = some (.string (bstr f.b)) := by unfold txV; rw [List.getElem?_map, hf]; simp only [Option.map_some]; rw [read_own hso Hdk.out hf]
        have v3 : (sfV D)[i]? = some (.int .i64 (f.safe : Int)) := by unfold sfV; rw [List.getElem?_map, hf]; simp only [Option.map_some]; rw [look_own hso hf]
        have v4 : (nmV (crashD D ks ts).fs)[i]? = some (.string (bstr f.nm)) := by unfold nmV; rw [List.getElem?_map, hcf]; rfl
        have v5 : (txV (crashD D ks ts))[i]? = some (.string (bstr (f.b.take e ++ List.replicate k 0))) := by
          unfold txV; rw [List.getElem?_map, hcf]; simp only [Option.map_some]
          have := read_own hso2 rfl hcf
          simp only at this
          rw [this]
        have v6 : (sfV (crashD D ks ts))[i]? = some (.int .i64 ((e + k : Nat) : Int)) := by
          unfold sfV; rw [List.getElem?_map, hcf]; simp only [Option.map_some]
          have := look_own hso2 hcf
          simp only at this
          rw [this]
        obtain ⟨g1, rfl, q1⟩ := (R1.out.below HB.out).at v1
        obtain ⟨g2, rfl, q2⟩ := (R2.out.below HB.out).at v2
        obtain ⟨g3, rfl, q3⟩ := (R3.out.below HB.out).at v3
        obtain ⟨g4, rfl, q4⟩ := (R4.out.below HB.out).at v4
        obtain ⟨g5, rfl, q5⟩ := (R5.out.below HB.out).at v5
        obtain ⟨g6, rfl, q6⟩ := (R6.out.below HB.out).at v6
        have hin : (0 : Int) ≤ (i : Int) ∧ (i : Int) < (n0 : Int) := by omega
        have hbb : (bstr f.b).size = f.b.length := rfl
        obtain ⟨b2, hb2⟩ : ∃ b2, b2 = f.b.take e ++ List.replicate k 0 := ⟨_, rfl⟩
        have hb2l : b2.length = e + k := by rw [hb2]; simp; omega
        have Hb2 := Lib.hid hb2
        rw [← hb2] at q5
        have hbb2 : (bstr b2).size = e + k := by rw [← hb2l]; rfl
        have Hb2l := Lib.hid hb2l
        clear v1 v2 v3 v4 v5 v6 hcf hl hf hso hso2 hb2 hb2l
        go_upto_region 14 with fail
        go_quiet (fail)
        have hbl : f.b.length ≤ 16777216 := Hbl.out
        have hk1 : IntKind.i64.wrap ((e : Int) + (k : Int)) = (e : Int) + (k : Int) := by rw [IntKind.wrap_i64]; omega
        have HBq := Lib.hid (HB.out.trans (below_drewN (Below.refl _ _) nq |>.mono HB.out.size))
        have hnq := below_drewN (Below.refl wr.heap.size wr) nq
        have p1 := cellB hnq q1
        have p2 := cellB hnq q2
        have p3 := cellB hnq q3
        have p4 := cellB hnq q4
        have p5 := cellB hnq q5
        have p6 := cellB hnq q6
        generalize wr.drewN nq = w4 at *
        clear q1 q2 q3 q4 q5 q6 hnq
        have t1 := str_to f.b f.safe (by omega)
        have t2 := str_to b2 f.safe (by rw [Hb2l.out]; omega)
        have t3 : (b2.take f.safe == f.b.take f.safe) = true := by
          rw [Hb2.out, List.take_append_of_le_length (by simp; omega), List.take_take, Nat.min_eq_left he1]
          simp
        have t4 : b2.take f.safe = f.b.take f.safe := by simpa using t3
        have u1 : decide (((e : Int) + (k : Int)) < (f.safe : Int)) = false := by simp; omega
        have u2 : decide ((f.b.length : Int) < (e : Int) + (k : Int)) = false := by simp; omega
        go_upto_region 15 with fail
        go_quiet (fail)
        have HBr := Lib.hid (HBq.out.trans (below_drewN (Below.refl _ _) nq |>.mono HBq.out.size))
        generalize w4.drewN nq = w5 at *
        clear p1 p2 p3 p4 p5 p6 t1 t2 t3 t4 u1 u2 HBq HB
        go_wp2_with fail
        have hek : e + k ≤ 16777216 := by omega
        go_loopw [18] (fun s18 wx => ∃ s : Nat, s ≤ e + k ∧ s18 = .int .i64 (s : Int) ∧ Hid (∀ j, j < s → f.b[j]? = b2[j]?) ∧ Hid (Below w5.heap.size w5 wx)) (fun iv _ => e + k - (intOf iv).toNat)
        case atStart => exact ⟨0, by omega, rfl, Lib.hid (fun j hj => by omega), Lib.hid (Below.refl _ _)⟩
        case round =>
          obtain ⟨s, hs, rfl, HS, HW⟩ := hrel
          have HBs := Lib.hid (HBr.out.trans (HW.out.mono HBr.out.size))
          have hsame : ∀ j, j < e → f.b[j]? = b2[j]? := fun j hj => by
            rw [Hb2.out, List.getElem?_append_left (by simp; omega), List.getElem?_take, if_pos hj]
          by_cases h2 : (s : Int) < (e : Int) + (k : Int)
          · obtain ⟨x, hx⟩ := get_some f.b s (by omega)
            obtain ⟨y, hy⟩ := get_some b2 s (by rw [Hb2l.out]; omega)
            have ix := idx_str f.b s x hx
            have iy := idx_str b2 s y hy
            by_cases hxy : x.toNat = y.toNat
            · have hxy2 : x = y := UInt8.toNat_inj.1 hxy
              have HS2 := Lib.hid (show ∀ j, j < s + 1 → f.b[j]? = b2[j]? from fun j hj => by
                rcases Nat.lt_succ_iff_lt_or_eq.1 hj with h5 | rfl
                · exact HS.out j h5
                · rw [hx, hy, hxy2])
              have hc : ((x.toNat : Int) == (y.toNat : Int)) = true := by simp [hxy]
              obtain ⟨xn, hxn⟩ : ∃ xn, xn = x.toNat := ⟨_, rfl⟩
              rw [← hxn] at ix hc hxy
              rw [← hxy] at iy hc
              clear hsame hx hy hxy hxy2 hxn
              go_upto_region 18 with fail
              go_quiet (fail)
              have HW2 := Lib.hid (HW.out.trans (below_drewN (Below.refl _ _) nq |>.mono HW.out.size))
              generalize wr.drewN nq = w6 at *
              go_wp2_with fail
              go_roundw
              case rel => exact ⟨s + 1, by omega, by go_num, HS2, HW2⟩
              case measure => simp [intOf]; omega
            · have HSE := Lib.hid (show e ≤ s by
                rcases Nat.lt_or_ge s e with h5 | h5
                · have := hsame s h5
                  rw [hx, hy] at this
                  exact absurd (congrArg UInt8.toNat (Option.some.inj this)) hxy
                · exact h5)
              have hc : ((x.toNat : Int) == (y.toNat : Int)) = false := by simp; omega
              have hc2 : decide ((x.toNat : Int) = (y.toNat : Int)) = false := by simp; omega
              obtain ⟨xn, hxn⟩ : ∃ xn, xn = x.toNat := ⟨_, rfl⟩
              obtain ⟨yn, hyn⟩ : ∃ yn, yn = y.toNat := ⟨_, rfl⟩
              rw [← hxn] at ix hc hc2 hxy
              rw [← hyn] at iy hc hc2 hxy
              clear hsame hx hy hxn hyn
              go_upto_region 18 with fail
              go_quiet (fail)
              have HB7 := Lib.hid (HBs.out.trans (below_drewN (Below.refl _ _) nq |>.mono HBs.out.size))
              clear HW HBs HS
              generalize wr.drewN nq = w7 at *
              go_wp2_with fail
              go_loopw [19] (fun s19 wx => ∃ m : Nat, s ≤ m ∧ m ≤ e + k ∧ s19 = .int .i64 (m : Int) ∧ Hid (Below w7.heap.size w7 wx)) (fun iv _ => e + k - (intOf iv).toNat)
              case atStart => exact ⟨s, by omega, by omega, rfl, Lib.hid (Below.refl _ _)⟩
              case round =>
                obtain ⟨m, hm1, hm2, rfl, HM⟩ := hrel
                by_cases h3 : (m : Int) < (e : Int) + (k : Int)
                · have hse := HSE.out
                  have hy : b2[m]? = some 0 := by
                    have hle : (f.b.take e).length = e := by rw [List.length_take]; omega
                    rw [Hb2.out, List.getElem?_append_right (by omega), hle, List.getElem?_replicate, if_pos (by omega)]
                  have iz := idx_str b2 m 0 hy
                  have hq : (m : Int) / 64 = (s : Int) / 64 := by omega
                  have hz0 : ((0 : UInt8).toNat : Int) = 0 := by rfl
                  rw [hz0] at iz
                  clear hy hz0
                  go_wp2_with fail
                  go_roundw
                  case rel => exact ⟨m + 1, by omega, by omega, by go_num, HM⟩
                  case measure => simp [intOf]; omega
                · obtain rfl : m = e + k := by omega
                  have HB9 := Lib.hid (HB7.out.trans (HM.out.mono HB7.out.size))
                  go_wp2_with fail
                  go_roundw
                  case rel => exact ⟨i + 1, by omega, by go_num, HB9⟩
                  case measure => simp [intOf]; omega
          · have HSE := Lib.hid (show e ≤ s by omega)
            clear hsame
            go_upto_region 18 with fail
            go_quiet (fail)
            have HB7 := Lib.hid (HBs.out.trans (below_drewN (Below.refl _ _) nq |>.mono HBs.out.size))
            clear HW HBs HS
            generalize wr.drewN nq = w7 at *
            go_wp2_with fail
            go_loopw [19] (fun s19 wx => ∃ m : Nat, s ≤ m ∧ m ≤ e + k ∧ s19 = .int .i64 (m : Int) ∧ Hid (Below w7.heap.size w7 wx)) (fun iv _ => e + k - (intOf iv).toNat)
            case atStart => exact ⟨s, by omega, by omega, rfl, Lib.hid (Below.refl _ _)⟩
            case round =>
              obtain ⟨m, hm1, hm2, rfl, HM⟩ := hrel
              by_cases h3 : (m : Int) < (e : Int) + (k : Int)
              · have hse := HSE.out
                have hy : b2[m]? = some 0 := by
                  have hle : (f.b.take e).length = e := by rw [List.length_take]; omega
                  rw [Hb2.out, List.getElem?_append_right (by omega), hle, List.getElem?_replicate, if_pos (by omega)]
                have iz := idx_str b2 m 0 hy
                have hq : (m : Int) / 64 = (s : Int) / 64 := by omega
                have hz0 : ((0 : UInt8).toNat : Int) = 0 := by rfl
                rw [hz0] at iz
                clear hy hz0
                go_wp2_with fail
                go_roundw
                case rel => exact ⟨m + 1, by omega, by omega, by go_num, HM⟩
                case measure => simp [intOf]; omega
              · obtain rfl : m = e + k := by omega
                have HB9 := Lib.hid (HB7.out.trans (HM.out.mono HB7.out.size))
                go_wp2_with fail
                go_roundw
                case rel => exact ⟨i + 1, by omega, by go_num, HB9⟩
                case measure => simp [intOf]; omega
      · obtain rfl : i = n0 := by omega
        have HB2 := HB
        go_wp2_with fail
        refine (awake2_any _).mono ?_; rintro x w4 ⟨rfl, hb⟩
        go_wp2_with fail
        go_ret
        exact ⟨rfl, (B3.out.trans (HB2.out.mono B3.out.size)).trans (hb.mono (by have := B3.out.size; have := HB2.out.size; omega))⟩
end Go.Proofs.Ytemegkapmgcffaa
