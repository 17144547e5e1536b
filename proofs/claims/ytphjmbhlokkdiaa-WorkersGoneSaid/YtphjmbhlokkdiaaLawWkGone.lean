import Derived.Test.YtphjmbhlokkdiaaPureGone
import Derived.Maps.RangeWalk
import Derived.Test.YtphjmbhlokkdiaaPickK
/- WorkersGone: the walk. -/
namespace Go.Proofs.Ytphjmbhlokkdiaa
open Go.RowKit Go.Maps Go.WideShapes Go.WideMaps Go.Proofs.YtphjmbhlokkdiaaW.PrintWords Go.Proofs.YtphjmbhlokkdiaaW.PrintLast Go.Proofs.YtphjmbhlokkdiaaW.PrintMore
set_option linter.unusedSimpArgs false
set_option linter.unusedVariables false

structure Sg where
  id : Int
  later : Int
  away : Bool
def sgC (x : Sg) : List Value := [.int .i64 x.id, .int .u8 x.later, .bool x.away]
def flatS (xs : List Sg) : List Value := xs.flatMap sgC
def OkS (xs : List Sg) : Prop := ∀ x ∈ xs, 0 ≤ x.later ∧ x.later ≤ 255
theorem flatS_len (xs : List Sg) : (flatS xs).length = xs.length * 3 := flatMap_len sgC 3 (fun _ => rfl) xs
theorem slS_len {w : World} {A : Option Addr} {m d : Nat} {ts : List Sg} (h : Sl w 3 A m d (flatS ts)) : ts.length = m := by have := h.len; rw [flatS_len] at this; omega
theorem slS_addr {w : World} {A : Option Addr} {m d : Nat} {ts : List Sg} (h : Sl w 3 A m d (flatS ts)) {k : Nat} {t : Sg} (hk : ts[k]? = some t) : ∃ ad, A = some ad := by
  obtain ⟨ad, h1, _⟩ := h.cells (k * 3 + 0) _ (flatMap_get sgC 3 (fun _ => rfl) hk (j := 0) rfl)
  exact ⟨ad, h1⟩
theorem slS_three {w : World} {ad : Addr} {m d : Nat} {ts : List Sg} (h : Sl w 3 (some ad) m d (flatS ts)) {k : Nat} {t : Sg} (hk : ts[k]? = some t) :
    w.cell? (ad.add (k * 3)) = some (.int .i64 t.id) ∧ w.cell? { block := (ad.add (k * 3)).block, off := (ad.add (k * 3)).off + 1, spot := none } = some (.int .u8 t.later) ∧ w.cell? { block := (ad.add (k * 3)).block, off := (ad.add (k * 3)).off + 2, spot := none } = some (.bool t.away) := by
  have key : ∀ j u, (sgC t)[j]? = some u → w.cell? ((ad.add (k * 3)).add j) = some u := by
    intro j u hj
    obtain ⟨a, h1, h2⟩ := h.cells (k * 3 + j) u (flatMap_get sgC 3 (fun _ => rfl) hk hj)
    cases h1
    rw [addr_add_add]; exact h2
  exact ⟨key 0 _ rfl, key 1 _ rfl, key 2 _ rfl⟩
theorem zeroIl (w : World) : (zeroValue 2).run Try.prog w = .ok (.int .i64 0) w := by kernel_rfl
theorem known_any (b n : Nat) (D : DataW Unit) (id : Int) (w : World) (h : w.ownsMap Try.prog 3 (plainElem Try.prog 2) b n D) (hi : -9223372036854775808 ≤ id ∧ id ≤ 9223372036854775807) :
    Calls Try.prog 44 #[.map (some b), .int .i64 id] w fun e w' => e = .returned (.bool (Maps.has D (.int .i64 id))) ∧ w = w' := by
  go_enter Try.func44, Try.ntmps44
  go_wp2_with (at_lookup; refine wpList_lookup_own_ok_int _ rfl _ _ 76 rfl 3 2 .i64 lawI Try.underlying76 Try.underlying2 (zeroIl _) b n D rfl h _ _ rfl (keyI hi) ?_; intro c hat hwc)
  go_ret
  exact ⟨rfl, rfl⟩

set_option maxRecDepth 100000 in
set_option maxHeartbeats 8000000 in
theorem walk_wkgone (A : Option Addr) (m d : Nat) (xs : List Sg) (most : Int) (w : World) (hs : Sl w 3 A m d (flatS xs)) (hox : OkS xs) (hd : d ≤ 9223372036854775807) (hmo : 0 ≤ most ∧ most ≤ 255) :
    Calls Try.prog 13 #[.slice A m d, .int .u8 most] w fun e w' => e = .returned (.bool true) ∧ Below w.heap.size w w' := by
  have hl := slS_len hs
  have hle := hs.le
  have Hl := Lib.hid hl
  have hmm := @run_makeMap Try.prog
  have bM := below_alloc1 w (.map #[] 0)
  have hown := World.ownsMap_made (H := Unit) w Try.prog 3 (plainElem Try.prog 2)
  have HO := Lib.hid hox
  clear hox
  go_enter Try.func13, Try.ntmps13
  go_wp2_with fail
  go_loopw [5, 7, 8] (fun s5 s7 s8 wx => ∃ (k : Nat) (A5 : Option Addr) (n5 c5 : Nat) (ys : List Wk) (now : Int) (D : DataW Unit), k ≤ m ∧ k ≤ 60 ∧ s5 = .slice A5 n5 c5 ∧ s7 = .int .i64 now ∧ s8 = .int .i64 (k : Int) ∧ 0 ≤ now ∧ now ≤ 255 * k ∧ Sl wx 2 A5 n5 c5 (flatW ys) ∧ wx.ownsMap Try.prog 3 (plainElem Try.prog 2) w.heap.size k D ∧ Hid (InvW ys now) ∧ Hid (MapW D ys) ∧ Below w.heap.size w wx) (fun _ _ iv _ => m - (intOf iv).toNat)
  case atStart => exact ⟨0, none, 0, 0, [], 0, .map [], by omega, by omega, rfl, rfl, rfl, by omega, by omega, Sl.nil _ _, hown, Lib.hid (invW_nil 0), Lib.hid mapW_nil, bM⟩
  case round =>
    obtain ⟨k, A5, n5, c5, ys, now, D, hk, hk60, rfl, rfl, rfl, hn0, hn1, sy, hmap, HI, HM, hbx⟩ := hrel
    rename World => wx
    by_cases hkm : k < m ∧ k < 60
    · obtain ⟨hkm, hk6⟩ := hkm
      obtain ⟨t, ht⟩ : ∃ t, xs[k]? = some t := ⟨_, List.getElem?_eq_getElem (by omega)⟩
      obtain ⟨ad, rfl⟩ := slS_addr hs ht
      obtain ⟨y0, y1, y2⟩ := slS_three (hs.below hbx) ht
      have hto := HO.out t (List.mem_of_getElem? ht)
      have Ht := Lib.hid ht
      clear ht hl
      go_wp2_with fail
      refine (pickK_any t.id 60 _ (by omega) (by omega)).mono ?_; rintro x w5 ⟨⟨p, hp, rfl⟩, rfl⟩
      have hid : (1 : Int) ≤ 1 + (p : Int) ∧ 1 + (p : Int) ≤ 60 := by omega
      obtain ⟨id, hidE⟩ : ∃ id, 1 + (p : Int) = id := ⟨_, rfl⟩
      have hkey := keyI (a := 1 + (p : Int)) (by omega)
      rw [hidE] at hid hkey
      go_wp2_with (at_lookup; refine wpList_lookup_own_ok_int _ rfl _ _ 76 rfl 3 2 .i64 lawI Try.underlying76 Try.underlying2 (zeroIl _) w.heap.size k D rfl hmap _ _ rfl hkey ?_; intro c hat hwc)
      all_goals rw [HM.out.has]
      all_goals
        have hT := hmap.tidy lawI
        have hn5 : n5 ≤ 50 := by have := HI.out.len; have := slW_len sy; omega
        have HI2 := Lib.hid (HI.out.later (now' := now + t.later) (by omega))
        obtain ⟨z, hz⟩ : ∃ z, knownW ys id = z := ⟨_, rfl⟩
        rw [hz]
        have Hz := Lib.hid hz
        clear hz hidE hat hwc y0 y1 y2 HI
      · refine (leaveW_any _ _ _ ys id _ sy (by omega)).mono ?_; rintro x w6 ⟨A6, n6, c6, rfl, s6, hb6⟩
        have sy6 := sy.below hb6
        have hmap6 := ownsMap_belowI hmap hb6
        have hbz6 := hbx.trans (hb6.mono hbx.size)
        clear sy hmap hbx hb6
        cases z with
        | true =>
          rw [leave_yes HI2.out Hz.out] at s6 ⊢
          go_wp2_with (at_delete; refine wpList_delete_own _ rfl _ _ 76 3 rfl 2 lawI Try.underlying76 _ w.heap.size k D rfl hmap6 _ _ rfl hkey ?_; intro w9 hmap9 hturn9)
          have sy9 := s6.grownM hmap6 hturn9.grown
          have hbz9 := hbz6.grown hturn9.grown hbz6.size (by intro j hj; cases hj; exact Nat.le_refl _)
          have HI9 := Lib.hid (HI2.out.leave id)
          have HM9 := Lib.hid (HM.out.del HI2.out hT id)

          have hmap9 := hmap9.mono (Nat.le_succ k)
          clear s6 hmap6 hbz6 hturn9
          go_wp2_with fail
          refine (wright_any _ _ _ _ _ sy9 (by have := HI9.out.len; have := slW_len sy9; omega)).mono ?_; rintro x w7 ⟨rfl, hb7⟩
          have sy7 := sy9.below hb7
          have hmap7 := ownsMap_belowI hmap9 hb7
          have hbz7 := hbz9.trans (hb7.mono hbz9.size)
          have hlen := hmap7.len Try.underlying76 3
          rw [HM9.out.size, slW_len sy9] at hlen
          have hnl : n6 ≤ 50 := by have := HI9.out.len; have := slW_len sy9; omega
          rw [HI9.out.right]
          clear sy9 hmap9 hbz9 hb7
          go_wp2_with fail
          refine (knownW_any _ _ _ _ _ _ sy7 (by omega)).mono ?_; rintro x w8 ⟨rfl, hb8⟩
          have sy8 := sy7.below hb8
          have hmap8 := ownsMap_belowI hmap7 hb8
          have hbz8 := hbz7.trans (hb8.mono hbz7.size)
          clear sy7 hmap7 hbz7 hb8 hlen
          go_wp2_with fail
          refine (known_any _ _ _ _ _ hmap8 (by omega)).mono ?_; rintro x w10 ⟨rfl, rfl⟩
          rw [HM9.out.has]
          obtain ⟨zz, hzz⟩ : ∃ zz, knownW (ys.filter (fun x => !decide (x.f0 = id))) id = zz := ⟨_, rfl⟩
          rw [hzz]
          go_wp2_with fail
          go_roundw
          case rel => exact ⟨k + 1, _, _, _, (ys.filter (fun x => !decide (x.f0 = id))), now + t.later, _, by omega, by omega, rfl, rfl, by go_num, by omega, by omega, sy8, hmap8, HI9, HM9, hbz8⟩
          case measure => simp [intOf]; omega
        | false =>
          rw [leave_no HI2.out Hz.out] at s6 ⊢
          have s6 : Sl _ 2 A6 n6 c6 (flatW ys) := s6
          obtain rfl : n6 = n5 := by have := slW_len s6; have := slW_len sy6; omega
          go_wp2_with fail
          refine (same_any _ _ _ _ _ _ _ _ s6 sy6 (by omega)).mono ?_; rintro x w66 ⟨rfl, hb66⟩
          have s66 := s6.below hb66
          have hmap66 := ownsMap_belowI hmap6 hb66
          have hbz66 := hbz6.trans (hb66.mono hbz6.size)
          clear s6 sy6 hmap6 hbz6 hb66
          go_wp2_with (at_delete; refine wpList_delete_own _ rfl _ _ 76 3 rfl 2 lawI Try.underlying76 _ w.heap.size k D rfl hmap66 _ _ rfl hkey ?_; intro w9 hmap9 hturn9)
          have sy9 := s66.grownM hmap66 hturn9.grown
          have hbz9 := hbz66.grown hturn9.grown hbz66.size (by intro j hj; cases hj; exact Nat.le_refl _)
          have HI9 := Lib.hid (HI2.out)
          have HM9 := Lib.hid (HM.out)
          rw [del_of_not_has (by rw [HM.out.has, Hz.out])] at hmap9
          have hmap9 := hmap9.mono (Nat.le_succ k)
          clear s66 hmap66 hbz66 hturn9
          go_wp2_with fail
          refine (wright_any _ _ _ _ _ sy9 (by have := HI9.out.len; have := slW_len sy9; omega)).mono ?_; rintro x w7 ⟨rfl, hb7⟩
          have sy7 := sy9.below hb7
          have hmap7 := ownsMap_belowI hmap9 hb7
          have hbz7 := hbz9.trans (hb7.mono hbz9.size)
          have hlen := hmap7.len Try.underlying76 3
          rw [HM9.out.size, slW_len sy9] at hlen
          have hnl : n6 ≤ 50 := by have := HI9.out.len; have := slW_len sy9; omega
          rw [HI9.out.right]
          clear sy9 hmap9 hbz9 hb7
          go_wp2_with fail
          refine (knownW_any _ _ _ _ _ _ sy7 (by omega)).mono ?_; rintro x w8 ⟨rfl, hb8⟩
          have sy8 := sy7.below hb8
          have hmap8 := ownsMap_belowI hmap7 hb8
          have hbz8 := hbz7.trans (hb8.mono hbz7.size)
          clear sy7 hmap7 hbz7 hb8 hlen
          go_wp2_with fail
          refine (known_any _ _ _ _ _ hmap8 (by omega)).mono ?_; rintro x w10 ⟨rfl, rfl⟩
          rw [HM9.out.has]
          obtain ⟨zz, hzz⟩ : ∃ zz, knownW ys id = zz := ⟨_, rfl⟩
          rw [hzz]
          go_wp2_with fail
          go_roundw
          case rel => exact ⟨k + 1, _, _, _, ys, now + t.later, _, by omega, by omega, rfl, rfl, by go_num, by omega, by omega, sy8, hmap8, HI9, HM9, hbz8⟩
          case measure => simp [intOf]; omega
      · refine (seenW_any _ _ _ ys id (now + t.later) _ sy (by omega)).mono ?_; rintro x w6 ⟨A6, n6, c6, rfl, s6, hb6⟩
        have sy6 := sy.below hb6
        have hmap6 := ownsMap_belowI hmap hb6
        have hbz6 := hbx.trans (hb6.mono hbx.size)
        clear sy hmap hbx hb6
        cases z with
        | true =>
          rw [seen_set HI2.out hid.1 (by omega) Hz.out] at s6 ⊢
          go_wp2_with (at_mapUpdate; refine wpList_mapUpdate_own _ rfl _ _ _ 76 rfl 3 2 lawI Try.underlying76 _ w.heap.size k _ rfl hmap6 (by unfold maxLen; omega) _ _ _ rfl rfl hkey _ [] (plainElem_int Try.underlying2 (by simp [Lit.wf, IntKind.min, IntKind.max, IntKind.signed, IntKind.bits]; omega)) ?_; intro w9 hmap9 hgr9)
          have sy9 := s6.grownM hmap6 hgr9
          have hbz9 := hbz6.grown hgr9 hbz6.size (by intro j hj; cases hj; exact Nat.le_refl _)
          have HI9 := Lib.hid (HI2.out.set hid (by omega) Hz.out)
          have HM9 := Lib.hid (HM.out.set HI2.out hT Hz.out)
          clear s6 sy6 hmap6 hbz6 hgr9
          go_wp2_with fail
          refine (wright_any _ _ _ _ _ sy9 (by have := HI9.out.len; have := slW_len sy9; omega)).mono ?_; rintro x w7 ⟨rfl, hb7⟩
          have sy7 := sy9.below hb7
          have hmap7 := ownsMap_belowI hmap9 hb7
          have hbz7 := hbz9.trans (hb7.mono hbz9.size)
          have hlen := hmap7.len Try.underlying76 3
          rw [HM9.out.size, slW_len sy9] at hlen
          have hnl : n6 ≤ 50 := by have := HI9.out.len; have := slW_len sy9; omega
          rw [HI9.out.right]
          clear sy9 hmap9 hbz9 hb7
          go_wp2_with fail
          refine (knownW_any _ _ _ _ _ _ sy7 (by omega)).mono ?_; rintro x w8 ⟨rfl, hb8⟩
          have sy8 := sy7.below hb8
          have hmap8 := ownsMap_belowI hmap7 hb8
          have hbz8 := hbz7.trans (hb8.mono hbz7.size)
          clear sy7 hmap7 hbz7 hb8 hlen
          go_wp2_with fail
          refine (known_any _ _ _ _ _ hmap8 (by omega)).mono ?_; rintro x w10 ⟨rfl, rfl⟩
          rw [HM9.out.has]
          obtain ⟨zz, hzz⟩ : ∃ zz, knownW (ys.set (posW ys id) ⟨id, now + t.later⟩) id = zz := ⟨_, rfl⟩
          rw [hzz]
          go_wp2_with fail
          go_roundw
          case rel => exact ⟨k + 1, _, _, _, (ys.set (posW ys id) ⟨id, now + t.later⟩), now + t.later, _, by omega, by omega, rfl, rfl, by go_num, by omega, by omega, sy8, hmap8, HI9, HM9, hbz8⟩
          case measure => simp [intOf]; omega
        | false =>
          by_cases hfull : 50 ≤ ys.length
          · rw [seen_full HI2.out hid.1 (by omega) Hz.out hfull] at s6 ⊢
            have s6 : Sl _ 2 A6 n6 c6 (flatW ys) := s6
            obtain rfl : n6 = n5 := by have := slW_len s6; have := slW_len sy6; omega
            have hlen6 := hmap6.len Try.underlying76 3
            have h50 : ys.length = 50 := by have := HI2.out.len; omega
            rw [HM.out.size, h50] at hlen6
            go_wp2_with fail
            refine (same_any _ _ _ _ _ _ _ _ s6 sy6 (by omega)).mono ?_; rintro x w66 ⟨rfl, hb66⟩
            have sy9 := s6.below hb66
            have hmap9 := (ownsMap_belowI hmap6 hb66).mono (Nat.le_succ k)
            have hbz9 := hbz6.trans (hb66.mono hbz6.size)
            have HI9 := HI2
            have HM9 := HM
            clear s6 sy6 hmap6 hbz6 hb66 hlen6
            go_wp2_with fail
            refine (wright_any _ _ _ _ _ sy9 (by have := HI9.out.len; have := slW_len sy9; omega)).mono ?_; rintro x w7 ⟨rfl, hb7⟩
            have sy7 := sy9.below hb7
            have hmap7 := ownsMap_belowI hmap9 hb7
            have hbz7 := hbz9.trans (hb7.mono hbz9.size)
            have hlen := hmap7.len Try.underlying76 3
            rw [HM9.out.size, slW_len sy9] at hlen
            have hnl : n6 ≤ 50 := by have := HI9.out.len; have := slW_len sy9; omega
            rw [HI9.out.right]
            clear sy9 hmap9 hbz9 hb7
            go_wp2_with fail
            refine (knownW_any _ _ _ _ _ _ sy7 (by omega)).mono ?_; rintro x w8 ⟨rfl, hb8⟩
            have sy8 := sy7.below hb8
            have hmap8 := ownsMap_belowI hmap7 hb8
            have hbz8 := hbz7.trans (hb8.mono hbz7.size)
            clear sy7 hmap7 hbz7 hb8 hlen
            go_wp2_with fail
            refine (known_any _ _ _ _ _ hmap8 (by omega)).mono ?_; rintro x w10 ⟨rfl, rfl⟩
            rw [HM9.out.has]
            obtain ⟨zz, hzz⟩ : ∃ zz, knownW ys id = zz := ⟨_, rfl⟩
            rw [hzz]
            go_wp2_with fail
            go_roundw
            case rel => exact ⟨k + 1, _, _, _, ys, now + t.later, _, by omega, by omega, rfl, rfl, by go_num, by omega, by omega, sy8, hmap8, HI9, HM9, hbz8⟩
            case measure => simp [intOf]; omega
          · rw [seen_ins HI2.out hid.1 (by omega) Hz.out hfull] at s6 ⊢
            go_wp2_with (at_mapUpdate; refine wpList_mapUpdate_own _ rfl _ _ _ 76 rfl 3 2 lawI Try.underlying76 _ w.heap.size k _ rfl hmap6 (by unfold maxLen; omega) _ _ _ rfl rfl hkey _ [] (plainElem_int Try.underlying2 (by simp [Lit.wf, IntKind.min, IntKind.max, IntKind.signed, IntKind.bits]; omega)) ?_; intro w9 hmap9 hgr9)
            have sy9 := s6.grownM hmap6 hgr9
            have hbz9 := hbz6.grown hgr9 hbz6.size (by intro j hj; cases hj; exact Nat.le_refl _)
            have HI9 := Lib.hid (HI2.out.ins hid (by omega) Hz.out hfull)
            have HM9 := Lib.hid (HM.out.ins HI2.out hT Hz.out)
            clear s6 sy6 hmap6 hbz6 hgr9
            go_wp2_with fail
            refine (wright_any _ _ _ _ _ sy9 (by have := HI9.out.len; have := slW_len sy9; omega)).mono ?_; rintro x w7 ⟨rfl, hb7⟩
            have sy7 := sy9.below hb7
            have hmap7 := ownsMap_belowI hmap9 hb7
            have hbz7 := hbz9.trans (hb7.mono hbz9.size)
            have hlen := hmap7.len Try.underlying76 3
            rw [HM9.out.size, slW_len sy9] at hlen
            have hnl : n6 ≤ 50 := by have := HI9.out.len; have := slW_len sy9; omega
            rw [HI9.out.right]
            clear sy9 hmap9 hbz9 hb7
            go_wp2_with fail
            refine (knownW_any _ _ _ _ _ _ sy7 (by omega)).mono ?_; rintro x w8 ⟨rfl, hb8⟩
            have sy8 := sy7.below hb8
            have hmap8 := ownsMap_belowI hmap7 hb8
            have hbz8 := hbz7.trans (hb8.mono hbz7.size)
            clear sy7 hmap7 hbz7 hb8 hlen
            go_wp2_with fail
            refine (known_any _ _ _ _ _ hmap8 (by omega)).mono ?_; rintro x w10 ⟨rfl, rfl⟩
            rw [HM9.out.has]
            obtain ⟨zz, hzz⟩ : ∃ zz, knownW (ys.take (posW ys id) ++ ⟨id, now + t.later⟩ :: ys.drop (posW ys id)) id = zz := ⟨_, rfl⟩
            rw [hzz]
            go_wp2_with fail
            go_roundw
            case rel => exact ⟨k + 1, _, _, _, (ys.take (posW ys id) ++ ⟨id, now + t.later⟩ :: ys.drop (posW ys id)), now + t.later, _, by omega, by omega, rfl, rfl, by go_num, by omega, by omega, sy8, hmap8, HI9, HM9, hbz8⟩
            case measure => simp [intOf]; omega
    · have hkk : ¬ k < m ∨ (k < m ∧ ¬ k < 60) := by omega
      have bG := below_alloc1 wx (.map #[] 0)
      have hgm := World.ownsMap_made (H := Unit) wx Try.prog 3 (plainElem Try.prog 3)
      have sy1 := sy.below bG
      have hmap1 := ownsMap_belowI hmap bG
      have hbx1 := hbx.trans (bG.mono hbx.size)
      have hlt0 := hmap.lt
      have hne0 : wx.heap.size ≠ w.heap.size := by omega
      have hn5 : n5 ≤ 50 := by have := HI.out.len; have := slW_len sy; omega
      clear sy hmap hbx bG hl
      rcases hkk with hkk | hkk
      all_goals
        go_wp2_with fail
        refine (wgone_any A5 n5 c5 ys now most _ sy1 (by omega)).mono ?_; rintro x w3 ⟨A6, c6, rfl, s6, hb3⟩
        have hgm3 := ownsMap_belowI hgm hb3
        have hmap3 := ownsMap_belowI hmap1 hb3
        have hbC := hbx1.trans (hb3.mono hbx1.size)
        have hgl := gone_lenM ys now most
        have hyl := slW_len sy1
        obtain ⟨gs, hgs⟩ : ∃ gs, goneW ys now most = gs := ⟨_, rfl⟩
        rw [hgs] at s6 hgl ⊢
        have hgl2 : gs.length ≤ 50 := by omega
        have Hgs := Lib.hid hgs
        clear hgs hgl hyl sy1 hgm hmap1 hbx1 hb3
        go_wp2_with fail
        go_loopw [144] (fun s144 wz => ∃ (q : Nat) (G : DataW Unit) (sn : List Int), q ≤ gs.length ∧ s144 = .int .i64 (q : Int) ∧ wz.ownsMap Try.prog 3 (plainElem Try.prog 3) wx.heap.size q G ∧ Hid (SeenI G sn) ∧ Hid (∀ s, s ∈ sn ↔ s ∈ gs.take q) ∧ Hid (∀ kl, Maps.has G kl = true → ∃ g, kl = .int .i64 g ∧ g ∈ gs) ∧ w3.grownBy wz (some wx.heap.size)) (fun iv _ => gs.length - (intOf iv).toNat)
        case atStart => exact ⟨0, .map [], [], by omega, rfl, hgm3, Lib.hid seenI_empty, Lib.hid (by simp), Lib.hid (fun kl h => by simp [Maps.has] at h), below_grownBy (Below.refl _ _) _⟩
        case round =>
          obtain ⟨q, G, sn, hq, rfl, hgm4, HS, Hsn, Hky, hg⟩ := hrel
          rename World => wz
          by_cases hqm : q < gs.length
          · obtain ⟨x, hx⟩ : ∃ x, gs[q]? = some x := ⟨_, List.getElem?_eq_getElem hqm⟩
            obtain ⟨ad6, h61, h62⟩ := slI_cell (s6.grownM hgm3 hg) hx
            have hxr : -9223372036854775808 ≤ x ∧ x ≤ 9223372036854775807 := by
              have hkn := gone_known (xs := ys) (now := now) (most := most) (g := x) (by rw [Hgs.out]; exact List.mem_of_getElem? hx)
              obtain ⟨y, hy, rfl⟩ := (known_iff _ _).1 hkn
              have := HI.out.all y hy; omega
            have Hx := Lib.hid hx
            cases h61
            clear hx
            go_wp2_with (at_mapUpdate; refine wpList_mapUpdate_own _ rfl _ _ _ 65 rfl 3 3 lawI Try.underlying65 _ wx.heap.size q _ rfl hgm4 (by unfold maxLen; omega) _ _ _ rfl rfl (keyI hxr) _ [] (plainElem_int Try.underlying3 (by decide)) ?_; intro w5 hgm5 hgr5)
            go_roundw
            case rel => exact ⟨q + 1, _, x :: sn, by omega, by go_num, hgm5, Lib.hid (HS.out.put hgm4.isMap x), Lib.hid (fun s => by rw [take_snocM Hx.out, List.mem_append, List.mem_cons, Hsn.out s]; simp [or_comm]), Lib.hid (fun kl h => by
              by_cases he : kl = .int .i64 x
              · exact ⟨x, he, List.mem_of_getElem? Hx.out⟩
              · rw [has_put_other he] at h; exact Hky.out kl h), hg.trans hgr5⟩
            case measure => simp [intOf]; omega
          · obtain rfl : q = gs.length := by omega
            have hmap5 := hmap3.kept hg (by simp; omega)
            have hbD := hbC.grown hg hbC.size (by intro j hj; cases hj; omega)
            have Hsn2 : Hid (∀ g, g ∈ sn ↔ g ∈ gs) := Lib.hid (fun g => by rw [Hsn.out g, List.take_length])
            clear s6 hgm3 hmap3 hbC hg Hsn
            go_wp2_with (first | (at_range; refine wpList_range_own _ rfl _ 76 rfl 3 2 lawI Try.underlying76 _ w.heap.size k D rfl hmap5 ?_; intro w6 hrg6 hg6 hs6) | go_in)
            go_frame
            have hgl4 := hgm4.lt
            have hgm6 := hgm4.kept hg6 (by simp)
            have hbE := hbD.grown hg6 hbD.size (by intro j hj; cases hj)
            clear hgm4 hmap5 hg6 hbD
            go_loopw [] (fun wr => ∃ (left : Lit → Bool) (cnt : Nat) (G : DataW Unit) (sn : List Int), wr.ranges Try.prog 3 (plainElem Try.prog 2) w.heap.size wz.heap.size k D left cnt ∧ wr.ownsMap Try.prog 3 (plainElem Try.prog 3) wx.heap.size gs.length G ∧ Hid (SeenI G sn) ∧ Hid (∀ g, g ∈ sn ↔ g ∈ gs ∧ left (.int .i64 g) = true) ∧ Hid (∀ kl, Maps.has G kl = true → left kl = true) ∧ Hid (∀ kl, left kl = true → Maps.has D kl = true) ∧ Below w.heap.size w wr) (fun wr => wr.rangeLeft w.heap.size wz.heap.size)
            case atStart =>
              refine ⟨_, _, G, sn, hrg6, hgm6, HS, Lib.hid (fun g => ?_), Lib.hid (fun kl h => ?_), Lib.hid (fun kl h => h), hbE⟩
              · rw [Hsn2.out g]
                constructor
                · intro hg
                  refine ⟨hg, ?_⟩
                  rw [HM.out.has]
                  exact gone_known (now := now) (most := most) (by rw [Hgs.out]; exact hg)
                · exact fun h => h.1
              · obtain ⟨g, rfl, hg⟩ := Hky.out kl h
                rw [HM.out.has]
                exact gone_known (now := now) (most := most) (by rw [Hgs.out]; exact hg)
            case round =>
              obtain ⟨left, cnt, G1, sn1, hrg, hgm7, HS1, Hsn1, HG1, HL, hbF⟩ := hrel
              rename World => wr
              go_wp2_with (first | (at_next; refine wpList_next_ranges_ii _ rfl _ rfl 3 2 .i64 .i64 lawI Try.underlying3 Try.underlying2 w.heap.size wz.heap.size k _ _ _ rfl hrg ?_ ?_) | go_in)
              · intro hc0 hl0
                have hz0 : Maps.size G1 = 0 := size_zero (hgm7.entries lawI) (fun kl => by
                  cases hh : Maps.has G1 kl with
                  | false => rfl
                  | true => have := HG1.out kl hh; rw [hl0 kl] at this; cases this)
                have hlen := hgm7.len Try.underlying65 3
                rw [hz0] at hlen
                clear hrg hl0
                go_wp2_with fail
                refine (awake19_any _).mono ?_; rintro x w9 ⟨rfl, hn9⟩
                go_wp2_with fail
                go_ret
                exact ⟨rfl, hbF.trans (hn9.mono hbF.size)⟩
              · intro x c w8 cnt8 hwx hwc hlx hat hrg8 hlt8 hg8 hs8 hen
                have hkn : knownW ys x = true := by rw [← HM.out.has]; exact HL.out _ hlx
                obtain ⟨y, hy, rfl⟩ := (known_iff _ _).1 hkn
                have hcy : c = y.f1 := by
                  have h1 := hat (.lit (.int .i64 0))
                  rw [HM.out.at_ y hy] at h1
                  simp only [DataW.lit.injEq, Lit.int.injEq, true_and] at h1
                  exact h1.symm
                subst hcy
                have hyi := HI.out.all y hy
                have hxr : -9223372036854775808 ≤ y.f0 ∧ y.f0 ≤ 9223372036854775807 := by omega
                have hgy := gone_mem (most := most) HI.out hmo.1 hy
                rw [Hgs.out, plusW_small (by omega) (by omega)] at hgy
                have hm0 : wr.rangeLeft w.heap.size wz.heap.size = cnt := hrg.left_eq
                have hgm8 := hgm7.kept hg8 (by simp; omega)
                have hbG := hbF.grown hg8 hbF.size (by intro j hj; cases hj; have := hrg.owns.lt; omega)
                have hlook := HS1.out.look hgm8 hxr
                have hsy := Hsn1.out y.f0
                rw [hlx, hgy] at hsy
                simp only [and_true] at hsy
                clear hrg hgm7 hbF hg8 hkn hat
                by_cases hin : y.f1 + most < now
                · rw [if_pos (hsy.2 hin)] at hlook
                  clear hsy
                  go_wp2_with (at_delete; refine wpList_delete_own _ rfl _ _ 65 3 rfl 3 lawI Try.underlying65 _ wx.heap.size gs.length G1 rfl hgm8 _ _ rfl (keyI hxr) ?_; intro w9 hgm9 hturn9)
                  have hrg9 := hrg8.kept hturn9.grown (by simp; omega) (by simp; omega)
                  have hbH := hbG.grown hturn9.grown hbG.size (by intro j hj; cases hj; omega)
                  have hm9 := hrg9.left_eq
                  go_roundw
                  case rel => first | exact ⟨_, ⟨_, hrg9⟩, _, hgm9, _, Lib.hid (HS1.out.del y.f0), Lib.hid (left_mem Hsn1.out y.f0), Lib.hid (left_has HG1.out y.f0), Lib.hid (fun kl h => HL.out kl (by simp only [Bool.and_eq_true] at h; exact h.1)), hbH⟩ | exact ⟨_, _, _, _, _, _, _, _, _, _, _, _, _, _, _, _, _, _, _, _, _, ⟨_, _, _, _, hrg9, hgm9, Lib.hid (HS1.out.del y.f0), Lib.hid (left_mem Hsn1.out y.f0), Lib.hid (left_has HG1.out y.f0), Lib.hid (fun kl h => HL.out kl (by simp only [Bool.and_eq_true] at h; exact h.1)), hbH⟩, rfl⟩
                  case measure => omega
                · rw [if_neg (fun h => hin (hsy.1 h))] at hlook
                  clear hsy
                  go_wp2_with (at_delete; refine wpList_delete_own _ rfl _ _ 65 3 rfl 3 lawI Try.underlying65 _ wx.heap.size gs.length G1 rfl hgm8 _ _ rfl (keyI hxr) ?_; intro w9 hgm9 hturn9)
                  have hrg9 := hrg8.kept hturn9.grown (by simp; omega) (by simp; omega)
                  have hbH := hbG.grown hturn9.grown hbG.size (by intro j hj; cases hj; omega)
                  have hm9 := hrg9.left_eq
                  go_roundw
                  case rel => first | exact ⟨_, ⟨_, hrg9⟩, _, hgm9, _, Lib.hid (HS1.out.del y.f0), Lib.hid (left_mem Hsn1.out y.f0), Lib.hid (left_has HG1.out y.f0), Lib.hid (fun kl h => HL.out kl (by simp only [Bool.and_eq_true] at h; exact h.1)), hbH⟩ | exact ⟨_, _, _, _, _, _, _, _, _, _, _, _, _, _, _, _, _, _, _, _, _, ⟨_, _, _, _, hrg9, hgm9, Lib.hid (HS1.out.del y.f0), Lib.hid (left_mem Hsn1.out y.f0), Lib.hid (left_has HG1.out y.f0), Lib.hid (fun kl h => HL.out kl (by simp only [Bool.and_eq_true] at h; exact h.1)), hbH⟩, rfl⟩
                  case measure => omega
end Go.Proofs.Ytphjmbhlokkdiaa
