import Derived.Test.YtemegkapmgcffaaPureLeaves
import Derived.Lib.MinMax
/- DiskKept: the walk. -/
namespace Go.Proofs.Ytemegkapmgcffaa
open Go.RowKit
set_option linter.unusedSimpArgs false
set_option linter.unusedVariables false

theorem str_toK (l : List UInt8) (k : Nat) (hk : k ≤ l.length) (w : World) : (Instr.slice 9 (.string (bstr l)) none (some (.int .i64 (k : Int))) none).run Try.prog w = .ok (.string (bstr (l.take k))) w := by
  have hs : (bstr l).size = l.length := rfl
  rw [run_slice_string_to_if (h := Try.underlying9), if_pos ⟨by omega, by rw [hs]; omega⟩]
  congr 2
  apply ByteArray.ext
  rw [ByteArray.data_extract]
  simp [bstr, List.extract_toArray]
/-- a row's i-th one -/
theorem Rw.atK {F : Nat → Prop} {w : World} {A : Option Addr} {n c : Nat} {vs : List Value} (h : Rw F w A n c vs) {i : Nat} {v : Value} (hv : vs[i]? = some v) : ∃ ad, A = some ad ∧ w.cell? (ad.add i) = some v := h.1.cells i v hv
def keepV (many : Nat) (way : Nat) : Nat := if way = 0 then 0 else if way = 1 then 1073741824 else many
def wantV (safe len many : Nat) (way : Nat) : Nat := if way = 0 then safe else if way = 1 then len else min (safe + many) len
theorem idx3 (a b c : Int) (way : Nat) (h : way < 3) (w : World) : (Instr.index 93 (.agg #[.int .i64 a, .int .i64 b, .int .i64 c]) (.int .i64 (way : Int))).run Try.prog w = .ok (.int .i64 (if way = 0 then a else if way = 1 then b else c)) w := by
  obtain rfl | rfl | rfl : way = 0 ∨ way = 1 ∨ way = 2 := by omega
  · kernel_rfl
  · kernel_rfl
  · kernel_rfl
theorem left_kept (f : Fl) (many way : Nat) (hs : f.safe ≤ f.b.length) (hl : f.b.length ≤ 16777216) : (leftF f (keepV many way : Int) 0).b = f.b.take (wantV f.safe f.b.length many way) := by
  unfold leftF keepV wantV
  simp only [Int.toNat_natCast, Int.toNat_zero, Nat.zero_min, List.replicate_zero, List.append_nil]
  split
  · simp
  · split
    · congr 1; omega
    · congr 1; omega
theorem told_rep {n i : Nat} (v : Nat) (h : i < n) : toldI (List.replicate n (v : Int)) i = (v : Int) := by
  unfold toldI
  rw [List.getElem?_replicate, if_pos h]
  simp only
  rw [if_neg (by omega)]
theorem told_nil (i : Nat) : toldI [] i = 0 := by unfold toldI; simp
def fillV (n0 v j : Nat) : List Value := List.replicate j (.int .i64 (v : Int)) ++ List.replicate (n0 - j) (.int .i64 0)
theorem fill_set {n0 v j : Nat} (h : j < n0) : (fillV n0 v j).set j (.int .i64 (v : Int)) = fillV n0 v (j + 1) := by
  obtain ⟨m, hm⟩ : ∃ m, n0 - j = m + 1 := ⟨n0 - j - 1, by omega⟩
  unfold fillV
  rw [hm, show n0 - (j + 1) = m by omega, List.set_append_right _ _ (by simp)]
  simp only [List.length_replicate, Nat.sub_self, List.replicate_succ, List.set_cons_zero]
  rw [← List.replicate_succ, List.replicate_succ', List.append_assoc]
  rfl
theorem fill_get {n0 v j : Nat} (h : j < n0) : (fillV n0 v j)[j]? = some (.int .i64 0) := by
  unfold fillV
  rw [List.getElem?_append_right (by simp), List.length_replicate, Nat.sub_self, List.getElem?_replicate, if_pos (by omega)]
theorem fill_all (n0 v : Nat) : fillV n0 v n0 = (List.replicate n0 (v : Int)).map fun x => .int .i64 x := by
  unfold fillV
  simp
theorem idxK (mn way : Nat) (h : way < 3) (w : World) : (Instr.index 93 (.agg #[.int .i64 0, .int .i64 1073741824, .int .i64 (mn : Int)]) (.int .i64 (way : Int))).run Try.prog w = .ok (.int .i64 (keepV mn way : Int)) w := by
  rw [idx3 _ _ _ way h]
  unfold keepV
  split
  · rfl
  · split <;> rfl
theorem idxW (s l mn way : Nat) (h : way < 3) (w : World) : (Instr.index 93 (.agg #[.int .i64 (s : Int), .int .i64 (l : Int), .int .i64 (min ((s : Int) + (mn : Int)) (l : Int))]) (.int .i64 (way : Int))).run Try.prog w = .ok (.int .i64 (wantV s l mn way : Int)) w := by
  rw [idx3 _ _ _ way h]
  unfold wantV
  split
  · rfl
  · split
    · rfl
    · congr 2; omega
set_option maxRecDepth 100000 in
set_option maxHeartbeats 8000000 in
theorem kept_any {W : World} {A : Option Addr} {n c : Nat} {es : List Ded} {many : Int} (s : Sl W 7 A n c (flatD es)) (ok : ∀ e, e ∈ es → OkDed W e) (hn : n ≤ 9223372036854775807) (hm : 0 ≤ many ∧ many ≤ 65535) :
    Calls Try.prog 16 #[.slice A n c, .int .u16 many] W fun x w' => x = .returned (.bool true) ∧ Below W.heap.size W w' := by
  obtain ⟨mn, rfl⟩ := Int.eq_ofNat_of_zero_le hm.1
  have S := Lib.hid s
  have OK := Lib.hid ok
  clear s ok
  go_enter Try.func16, Try.ntmps16
  go_wp2_with fail
  go_loopw [5] (fun s5 wx => ∃ way : Nat, way ≤ 3 ∧ s5 = .int .i64 (way : Int) ∧ Hid (Below W.heap.size W wx)) (fun iv _ => 3 - (intOf iv).toNat)
  case atStart => exact ⟨0, by omega, rfl, Lib.hid (Below.refl _ _)⟩
  case round =>
    obtain ⟨way, hway, rfl, HW⟩ := hrel
    obtain ⟨W9, hW9⟩ : ∃ W9, W9 = wr := ⟨_, rfl⟩
    subst hW9
    by_cases hw3 : (way : Int) < 3
    · go_wp2_with fail
      refine (done_any (S.out.below HW.out) (fun e he => (OK.out e he).below HW.out) hn (by decide)).mono ?_; rintro x w0 ⟨p, rfl, h0⟩
      obtain ⟨D, hD⟩ : ∃ D, D = doneP (newD 1048576) es 40 := ⟨_, rfl⟩
      rw [← hD] at h0
      obtain ⟨F0, d0, b0⟩ := h0
      have D0 := Lib.hid d0
      have B0 := Lib.hid b0
      clear hD d0 b0
      go_wp2_with fail
      refine (Down_any D0.out).mono ?_; rintro x w1 ⟨rfl, rfl⟩
      cases hdk : D.dark with
      | true =>
        clear hdk
        go_wp2_with fail
        refine (awake2_any _).mono ?_; rintro x w1 ⟨rfl, hb⟩
        go_wp2_with fail
        go_ret
        exact ⟨rfl, (HW.out.trans (B0.out.mono HW.out.size)).trans (hb.mono (Nat.le_trans HW.out.size B0.out.size))⟩
      | false =>
        have Hdk := Lib.hid hdk
        clear hdk
        go_wp2_with fail
        refine (snap_any D0.out).mono ?_; rintro x w1 ⟨A1, a1, A2, a2, A3, a3, rfl, r1, r2, r3, hb1⟩
        have B1 := Lib.hid (B0.out.trans (hb1.mono B0.out.size))
        have D1 := Lib.hid (D0.out.below hb1)
        have R1 := Lib.hid r1
        have R2 := Lib.hid r2
        have R3 := Lib.hid r3
        clear r1 r2 r3 hb1
        obtain ⟨n0, hn0⟩ : ∃ n0, n0 = D.fs.length := ⟨_, rfl⟩
        rw [← hn0] at R1 R2 R3
        rw [← hn0]
        have hn200 : n0 ≤ 200 := by rw [hn0]; exact D0.out.good.few
        have Hn0 := Lib.hid hn0
        clear hn0
        obtain ⟨i0, hi, hz0, hz1, hz2⟩ := info_parts infoIntD
        go_wp2_with (at_make; refine wpList_make_full _ rfl _ _ 53 rfl w1.heap.size 3 i0 (.int .i64 0) 1 Try.underlying53 hi hz0 hz1 _ _ _ _ n0 rfl rfl rfl rfl (by rw [hz2]; omega) (by unfold maxLen; omega) (Nat.le_refl _) ?_; intro w2 hown2 hgrow2)
        obtain ⟨r, hr⟩ : ∃ r, r = w1.heap.size := ⟨_, rfl⟩
        have Hr := Lib.hid hr
        obtain ⟨v, hv⟩ : ∃ v, v = keepV mn way := ⟨_, rfl⟩
        have ho2 : Own r 3 1 w2 (some ⟨r, 0, none⟩) n0 n0 (fillV n0 v 0) := by
          have h5 := hown2
          rw [← hr] at h5
          have : fillV n0 v 0 = (madeCells (Value.int .i64 0).cells (n0 * 1)).toList := by
            unfold fillV
            simp [madeCells, Value.cells]
            apply List.ext_getElem (by simp)
            intro j _ _
            simp [Nat.mod_one]
          rw [this]
          exact h5
        have HO2 := Lib.hid ho2
        have HB2 := Lib.hid (show Below r w1 w2 by rw [hr]; exact grownBy_below hgrow2)
        have hvb : v ≤ 1073741824 := by rw [hv]; unfold keepV; split <;> (try split) <;> omega
        have Hv := Lib.hid hv
        have Hix := Lib.hid (fun w => idxK mn way (by omega) w)
        clear hown2 hgrow2 ho2 hi hz0 hz1 hz2
        have hrs : r = w1.heap.size := hr
        rw [← hr]
        clear hr hv
        have hix := Hix.out
        rw [← Hv.out] at hix
        clear hrs
        go_loopw [43] (fun s43 wx => ∃ j : Nat, j ≤ n0 ∧ s43 = .int .i64 (j : Int) ∧ Hid (Own r 3 1 wx (some ⟨r, 0, none⟩) n0 n0 (fillV n0 v j)) ∧ Hid (Below r w1 wx)) (fun iv _ => n0 - (intOf iv).toNat)
        case atStart => exact ⟨0, by omega, rfl, HO2, HB2⟩
        case round =>
          obtain ⟨j, hj, rfl, HO, HBj⟩ := hrel
          by_cases h1 : (j : Int) < (n0 : Int)
          · have hjl : j < n0 := by omega
            have k0 := World.ownsRow.cellAt HO.out j (by omega)
            rw [fill_get hjl] at k0
            have y0 := World.ownsRow.frozenAt HO.out j
            have st := World.ownsRow.stored HO.out j (.int .i64 (v : Int))
            rw [fill_set hjl] at st
            have HO3 := Lib.hid st.1
            have HB3 := Lib.hid (HBj.out.grown st.2 (by have := HBj.out.size; have := Hr.out; omega) (fun q hq => by cases hq; exact Nat.le_refl _))
            have hin : (0 : Int) ≤ (j : Int) ∧ (j : Int) < (n0 : Int) := by omega
            clear st HO HBj
            go_wp2_with fail
            go_roundw
            case rel => exact ⟨j + 1, by omega, by go_num, HO3, HB3⟩
            case measure => simp [intOf]; omega
          · obtain rfl : n0 = j := by omega
            rw [fill_all] at HO
            have hs0 := D0.out.bound
            have hF0 : ∀ q, F0 q → q < r := fun q hq => by
              have h5 := (D1.out.bound q hq).2
              have := Hr.out
              omega
            have hb1r := HBj.out
            have D2 := Lib.hid (D1.out.below (by rw [← Hr.out]; exact hb1r))
            have rk : Rw F0 wr (some ⟨r, 0, none⟩) n0 n0 ((List.replicate n0 (v : Int)).map fun x => .int .i64 x) := rw_own HO.out hF0
            have r1 := R1.out.below (w' := wr) (by rw [← Hr.out]; exact hb1r)
            have r2 := R2.out.below (w' := wr) (by rw [← Hr.out]; exact hb1r)
            have r3 := R3.out.below (w' := wr) (by rw [← Hr.out]; exact hb1r)
            have B4 := Lib.hid (show Below W9.heap.size W9 wr from B1.out.trans (hb1r.mono (by rw [Hr.out]; exact B1.out.size)))
            have HO' := HO
            clear HO HBj hb1r hs0 R1 R2 R3 D1 B1
            go_wp2_with fail
            refine (Crash_any D2.out (ts := []) rk.sl (sl_nilI _) (fun a ha _ hf => by cases ha; have := hF0 _ hf; simp only at this; omega) (fun a ha => by cases ha) (by omega) (by omega) (fun x hx => by have := List.eq_of_mem_replicate hx; omega) (by simp)).mono ?_
            rintro x w4 ⟨rfl, F1, d4, c4⟩
            have hb4 := B4.out.trans (c4.bel (fun q hq => (D2.out.bound q hq).1) B4.out.size)
            have q1 := r1.step c4
            have q2 := r2.step c4
            have q3 := r3.step c4
            have D4 := Lib.hid d4
            have hlen : (crashD D (List.replicate n0 (v : Int)) []).fs.length = D.fs.length := crash_len _ _ _
            clear d4 c4 r1 r2 r3 rk B4 HO'
            go_wp2_with fail
            refine (snap_any D4.out).mono ?_; rintro x w5 ⟨A4, a4, A5, a5, A6, a6, rfl, r4, r5, r6, hb5⟩
            rw [hlen, ← Hn0.out] at r4 r5 r6
            rw [hlen, ← Hn0.out]
            have B5 := Lib.hid (hb4.trans (hb5.mono hb4.size))
            have R2 := Lib.hid (q2.below hb5)
            have R3 := Lib.hid (q3.below hb5)
            have R5 := Lib.hid r5
            have hso2 := Lib.hid D4.out.good.srt
            clear q1 q2 q3 r4 r5 r6 hb4 hb5 hlen hF0
            go_wp2_with fail
            go_loopw [66] (fun s66 wx => ∃ i : Nat, i ≤ n0 ∧ s66 = .int .i64 (i : Int) ∧ Hid (Below w5.heap.size w5 wx)) (fun iv _ => n0 - (intOf iv).toNat)
            case atStart => exact ⟨0, by omega, rfl, Lib.hid (Below.refl _ _)⟩
            case round =>
              obtain ⟨i, hi, rfl, HB⟩ := hrel
              by_cases h1 : (i : Int) < (n0 : Int)
              · obtain ⟨f, hf⟩ := get_some D.fs i (by rw [← Hn0.out]; omega)
                have hsf := D0.out.good.safe f (List.mem_of_getElem? hf)
                have hso := D0.out.good.srt
                have hbl : f.b.length ≤ 16777216 := by
                  have h5 := used_set (f' := ⟨f.nm, [], 0⟩) hf
                  have h6 := D0.out.good.used
                  have h7 := D0.out.good.room
                  simp only [List.length_nil] at h5
                  omega
                have hcf : (crashD D (List.replicate n0 (v : Int)) []).fs[i]? = some (leftF f (v : Int) 0) := by
                  have := crash_get (ks := List.replicate n0 (v : Int)) (ts := []) hf
                  rw [told_rep v (by omega), told_nil] at this
                  exact this
                have v2 : (txV D)[i]? = some (.string (bstr f.b)) := by unfold txV; rw [List.getElem?_map, hf]; simp only [Option.map_some]; rw [read_own hso Hdk.out hf]
                have v3 : (sfV D)[i]? = some (.int .i64 (f.safe : Int)) := by unfold sfV; rw [List.getElem?_map, hf]; simp only [Option.map_some]; rw [look_own hso hf]
                have v5 : (txV (crashD D (List.replicate n0 (v : Int)) []))[i]? = some (.string (bstr (f.b.take (wantV f.safe f.b.length mn way)))) := by
                  unfold txV; rw [List.getElem?_map, hcf]; simp only [Option.map_some]
                  have := read_own hso2.out rfl hcf
                  rw [left_nm] at this
                  rw [left_nm, this]
                  simp only
                  rw [Hv.out, left_kept f mn way hsf hbl]
                obtain ⟨g2, rfl, p2⟩ := (R2.out.below HB.out).atK v2
                obtain ⟨g3, rfl, p3⟩ := (R3.out.below HB.out).atK v3
                obtain ⟨g5, rfl, p5⟩ := (R5.out.below HB.out).atK v5
                have hin : (0 : Int) ≤ (i : Int) ∧ (i : Int) < (n0 : Int) := by omega
                have hbb : (bstr f.b).size = f.b.length := rfl
                have hwk : IntKind.i64.wrap ((f.safe : Int) + (mn : Int)) = (f.safe : Int) + (mn : Int) := by rw [IntKind.wrap_i64]; omega
                have Hiw := Lib.hid (fun w => idxW f.safe f.b.length mn way (by omega) w)
                obtain ⟨wt, hwt⟩ : ∃ wt, wt = wantV f.safe f.b.length mn way := ⟨_, rfl⟩
                have hwl : wt ≤ f.b.length := by rw [hwt]; unfold wantV; split <;> (try split) <;> omega
                rw [← hwt] at p5 Hiw
                have hiw := Hiw.out
                have hst := str_toK f.b wt hwl
                clear v2 v3 v5 hcf hf hso hwt hsf
                go_upto_region 21 with fail
                go_quiet (fail)
                have HB6 := Lib.hid (HB.out.trans (below_drewN (Below.refl _ _) nq |>.mono HB.out.size))
                have hnq := below_drewN (Below.refl wr.heap.size wr) nq
                have e2 := cellB hnq p2
                have e5 := cellB hnq p5
                generalize wr.drewN nq = w6 at *
                clear p2 p3 p5 hnq HB
                go_upto_region 22 with fail
                go_quiet (fail)
                have HB7 := Lib.hid (HB6.out.trans (below_drewN (Below.refl _ _) nq |>.mono HB6.out.size))
                generalize w6.drewN nq = w7 at *
                clear e2 e5 HB6
                go_wp2_with fail
                go_roundw
                case rel => exact ⟨i + 1, by omega, by go_num, HB7⟩
                case measure => simp [intOf]; omega
              · obtain rfl : n0 = i := by omega
                have HBf := Lib.hid ((HW.out.trans (B5.out.mono HW.out.size)).trans (HB.out.mono (Nat.le_trans HW.out.size B5.out.size)))
                clear HB
                go_wp2_with fail
                go_roundw
                case rel => exact ⟨way + 1, by omega, by go_num, HBf⟩
                case measure => simp [intOf]; omega
    · obtain rfl : way = 3 := by omega
      have HW2 := HW
      go_wp2_with fail
      refine (awake2_any _).mono ?_; rintro x w4 ⟨rfl, hb⟩
      go_wp2_with fail
      go_ret
      exact ⟨rfl, HW2.out.trans (hb.mono HW2.out.size)⟩
end Go.Proofs.Ytemegkapmgcffaa
