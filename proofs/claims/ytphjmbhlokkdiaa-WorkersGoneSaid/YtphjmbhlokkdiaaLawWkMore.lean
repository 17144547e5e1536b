import Derived.Test.YtphjmbhlokkdiaaWkF
import Derived.Test.YtphjmbhlokkdiaaMapI
import Derived.Laws.IdiomArrays
/- WorkersMore: the walk. -/
namespace Go.Proofs.Ytphjmbhlokkdiaa
open Go.RowKit Go.Maps Go.WideShapes Go.WideMaps Go.Proofs.YtphjmbhlokkdiaaW.PrintWords Go.Proofs.YtphjmbhlokkdiaaW.PrintLast Go.Proofs.YtphjmbhlokkdiaaW.PrintMore
set_option linter.unusedSimpArgs false
set_option linter.unusedVariables false

theorem cell_keep {w w' : World} (hb : Below w.heap.size w w') {a : Addr} {v : Value} (h : w.cell? a = some v) : w'.cell? a = some v := (World.cell?_of_block (hb.block _ (World.block_lt_of_cell? _ _ h))).trans h
theorem plusW_le {a b c : Int} (h : b ≤ c) : plusW a b ≤ plusW a c := by
  unfold plusW mn mx
  repeat' split
  all_goals omega
theorem gone_mono {ys : List Wk} {n1 n2 m1 m2 : Int} (hn : n1 ≤ n2) (hm : m2 ≤ m1) (h0 : 0 ≤ m2) {g : Int} (hg : g ∈ goneW ys n1 m1) : g ∈ goneW ys n2 m2 := by
  unfold goneW at hg ⊢
  cases hr : rightW ys with
  | false => rw [hr] at hg; simp at hg
  | true =>
    rw [hr] at hg
    simp only [Bool.true_and, decide_eq_true_eq] at hg ⊢
    rw [if_pos h0]
    rw [if_pos (by omega)] at hg
    unfold goneL at hg ⊢
    obtain ⟨y, hy, rfl⟩ := List.mem_map.1 hg
    rw [List.mem_filter] at hy
    refine List.mem_map.2 ⟨y, List.mem_filter.2 ⟨hy.1, ?_⟩, rfl⟩
    have h1 := hy.2
    simp only [decide_eq_true_eq] at h1 ⊢
    have := plusW_le (a := y.f1) hm
    omega
theorem seen_fresh {xs ys : List Wk} {id now : Int} (h : seenW xs id now = (ys, 0)) : (0 ≤ now ∧ now ≤ 1099511627776) ∧ ∀ y, y ∈ ys → y.f0 = id → y.f1 = now := by
  unfold seenW at h
  split at h
  · simp at h
  rename_i hr
  have hso := rightW_sorted (by simpa using hr : rightW xs = true)
  split at h
  · simp at h
  rename_i hbad
  have hb : ¬ now < 0 ∧ ¬ 1099511627776 < now := ⟨fun h1 => hbad (.inr (.inl h1)), fun h1 => hbad (.inr (.inr (.inl h1)))⟩
  refine ⟨by omega, ?_⟩
  split at h
  · rename_i hth
    obtain ⟨t, ht, he⟩ := there_true hth
    simp only [Prod.mk.injEq, and_true] at h
    subst h
    intro y hy hy0
    obtain ⟨j, hj⟩ := List.mem_iff_getElem?.1 hy
    rw [List.getElem?_set] at hj
    split at hj
    · split at hj
      · cases hj; rfl
      · cases hj
    · rename_i hne
      rcases Nat.lt_or_gt_of_ne hne with hlt | hgt
      · have := hso _ _ t y hlt ht hj; omega
      · have := hso _ _ y t hgt hj ht; omega
  · rename_i hth
    split at h
    · simp at h
    simp only [Prod.mk.injEq, and_true] at h
    subst h
    intro y hy hy0
    rw [List.mem_append, List.mem_cons] at hy
    have hne : ∀ z, z ∈ xs → z.f0 ≠ id := by
      intro z hz hz0
      apply hth
      obtain ⟨j, hj⟩ := List.mem_iff_getElem?.1 hz
      have hp := posW_of (xs := xs) (id := id) (k := j) (by have := (List.getElem?_eq_some_iff.1 hj).1; omega) (fun i x hi hx => by have := hso i j x z hi hx hj; omega) (fun x hx => by rw [hj] at hx; cases hx; omega)
      unfold thereW
      rw [hp, hj]
      simpa using hz0
    rcases hy with hy | rfl | hy
    · exact absurd hy0 (hne y (List.mem_of_mem_take hy))
    · rfl
    · exact absurd hy0 (hne y (List.mem_of_mem_drop hy))
theorem gone_fresh {ys : List Wk} {id now most : Int} (hn : 0 ≤ now ∧ now ≤ 1099511627776) (h : ∀ y, y ∈ ys → y.f0 = id → y.f1 = now) {g : Int} (hg : g ∈ goneW ys now most) : g ≠ id := by
  intro he
  subst he
  unfold goneW goneL at hg
  split at hg
  · obtain ⟨y, hy, hy0⟩ := List.mem_map.1 hg
    rw [List.mem_filter] at hy
    have h1 := hy.2
    rw [h y hy.1 hy0] at h1
    simp only [decide_eq_true_eq] at h1
    unfold plusW mn mx at h1
    repeat' split at h1
    all_goals omega
  · cases hg
theorem gone_range {xs : List Wk} (ho : OkW xs) {now most g : Int} (hg : g ∈ goneW xs now most) : -9223372036854775808 ≤ g ∧ g ≤ 9223372036854775807 := by
  unfold goneW goneL at hg
  split at hg
  · obtain ⟨y, hy, rfl⟩ := List.mem_map.1 hg
    exact (ho y (List.mem_filter.1 hy).1).1
  · cases hg
theorem gone_lenM (xs : List Wk) (now most : Int) : (goneW xs now most).length ≤ xs.length := by
  unfold goneW goneL
  split
  · simp only [List.length_map]; exact List.length_filter_le _ _
  · simp
theorem seen_lenM (xs : List Wk) (id now : Int) : (seenW xs id now).1.length ≤ xs.length + 1 := by
  unfold seenW
  split
  · simp
  · split
    · simp
    · split
      · simp
      · split
        · simp
        · simp; omega

theorem cell_ne_map {w : World} {a : Addr} {v : Value} (h : w.cell? a = some v) {b : Nat} {es clock} (hb : w.heap[b]? = some (.map es clock)) : a.block ≠ b := by
  rintro rfl
  simp [World.cell?, hb] at h
theorem cell_grownM {w w' : World} {P : Program} {k : TypeId} {R : Value → Option (DataW Unit × List MemPlace)} {b n0 : Nat} {D : DataW Unit} (hm : w.ownsMap P k R b n0 D) (hg : w.grownBy w' (some b)) {a : Addr} {v : Value} (h : w.cell? a = some v) : w'.cell? a = some v := by
  obtain ⟨es, clock, hb, _⟩ := hm
  have hne := cell_ne_map h hb
  exact (World.cell?_of_block (hg.block _ (World.block_lt_of_cell? _ _ h) (fun e => hne (Option.some.inj e)))).trans h
theorem Sl.grownM {w w' : World} {size n c : Nat} {A : Option Addr} {cs : List Value} {P : Program} {k : TypeId} {R : Value → Option (DataW Unit × List MemPlace)} {b n0 : Nat} {D : DataW Unit} (h : Sl w size A n c cs) (hm : w.ownsMap P k R b n0 D) (hg : w.grownBy w' (some b)) : Sl w' size A n c cs := by
  refine ⟨?_, h.len, h.le, h.none⟩
  intro j u hj
  obtain ⟨ad, h1, h2⟩ := h.cells j u hj
  exact ⟨ad, h1, cell_grownM hm hg h2⟩
theorem take_snocM {α : Type} {l : List α} {k : Nat} {x : α} (h : l[k]? = some x) : l.take (k + 1) = l.take k ++ [x] := by rw [List.take_add_one, h]; rfl

set_option maxRecDepth 100000 in
set_option maxHeartbeats 8000000 in
theorem walk_wkmore (A : Option Addr) (m d : Nat) (xs : List Wk) (id x0 x1 x2 x3 : Int) (w : World) (hs : Sl w 2 A m d (flatW xs)) (hox : OkW xs) (hd : d ≤ 9223372036854775807) :
    Calls Try.prog 11 #[.slice A m d, .agg #[.int .i64 x0, .int .i64 x1, .int .i64 x2, .int .i64 x3], .int .i64 id] w fun e w' => e = .returned (.bool true) ∧ Below w.heap.size w w' := by
  have hl := slW_len hs
  have hle := hs.le
  obtain ⟨m7, hm7⟩ : ∃ m7, m7 = min m 70 := ⟨_, rfl⟩
  have hmin : min (m : Int) 70 = (m7 : Int) := by rw [hm7]; omega
  have hm70 : m7 ≤ 70 := by omega
  have hm7d : m7 ≤ d := by omega
  have hy := slW_take hs (k := m7) (by omega)
  obtain ⟨ys, hys⟩ : ∃ ys, ys = xs.take m7 := ⟨_, rfl⟩
  have HO : Hid (OkW ys) := Lib.hid (by rw [hys]; exact fun y hy => hox y (List.mem_of_mem_take hy))
  rw [← hys] at hy
  have hyl := slW_len hy
  have Hyl := Lib.hid hyl
  clear hl hle hm7 hys hs hox hyl
  have hmm := @run_makeMap Try.prog
  have hb0 := below_alloc1 w (.cells #[.int .i64 x0, .int .i64 x1, .int .i64 x2, .int .i64 x3] 63)
  have s0 := hy.below hb0
  have hbx := sl_cells w [.int .i64 x0, .int .i64 x1, .int .i64 x2, .int .i64 x3] 63
  clear hy
  go_enter Try.func11, Try.ntmps11
  go_wp2_with fail
  obtain ⟨W0, hW0⟩ : ∃ W0, W0 = w.alloc (.cells #[.int .i64 x0, .int .i64 x1, .int .i64 x2, .int .i64 x3] 63) := ⟨_, rfl⟩
  have zz : ∀ j u, [Value.int .i64 x0, .int .i64 x1, .int .i64 x2, .int .i64 x3][j]? = some u → W0.cell? ⟨w.heap.size, j, none⟩ = some u := by
    intro j u hj
    rw [hW0]
    obtain ⟨a, h1, h2⟩ := hbx.cells j u hj
    cases h1
    have e : (⟨w.heap.size, 0, none⟩ : Addr).add j = ⟨w.heap.size, j, none⟩ := by unfold Addr.add; split <;> simp_all
    rwa [e] at h2
  have z0 := zz 0 _ rfl
  have z1 := zz 1 _ rfl
  have z2 := zz 2 _ rfl
  have z3 := zz 3 _ rfl
  rw [← hW0] at s0 hb0 ⊢
  clear hW0 hbx zz
  refine (wgone_any A m7 d ys _ _ _ s0 (by omega)).mono ?_; rintro x w1 ⟨A7, c7, rfl, s7, hb1⟩
  have s1 := s0.below hb1
  have z0 := cell_keep hb1 z0
  have z1 := cell_keep hb1 z1
  have z2 := cell_keep hb1 z2
  have z3 := cell_keep hb1 z3
  have hbA := hb0.trans (hb1.mono hb0.size)
  have hwb := hbA.size
  clear s0 hb0 hb1
  obtain ⟨few, hfew⟩ : ∃ few, goneW ys (min x0 x1) (max x2 x3) = few := ⟨_, rfl⟩
  have hfl := gone_lenM ys (min x0 x1) (max x2 x3)
  rw [hfew] at s7 hfl ⊢
  rw [Hyl.out] at hfl
  have Hfew := Lib.hid hfew
  clear hfew
  have bM := below_alloc1 w1 (.map #[] 0)
  have hown := World.ownsMap_made (H := Unit) w1 Try.prog 3 (plainElem Try.prog 3)
  have s2 := s1.below bM
  have s7 := s7.below bM
  have z0 := cell_keep bM z0
  have z1 := cell_keep bM z1
  have z2 := cell_keep bM z2
  have z3 := cell_keep bM z3
  have hbB := hbA.trans (bM.mono hbA.size)
  have hw1 : w1.heap.size < (w1.alloc (.map #[] 0)).heap.size := by simp
  clear s1 hbA bM
  by_cases h0 : min x2 x3 < 0
  · go_wp2_with (go_at_call 32; refine (awake19_any _).mono ?_; rintro x w6 ⟨rfl, hn6⟩)
    go_ret
    exact ⟨rfl, hbB.trans (hn6.mono hbB.size)⟩
  go_upto_block 0 with fail
  generalize w1.alloc (.map #[] 0) = W1 at *
  have hd1 : decide (min x2 x3 < 0) = false := by simpa using h0
  try simp only [hd1]
  clear hd1
  go_wp2_with fail
  refine (wgone_any A m7 d ys _ _ _ s2 (by omega)).mono ?_; rintro x w3 ⟨A8, c8, rfl, s8, hb3⟩
  have s3 := s2.below hb3
  have s7 := s7.below hb3
  have z0 := cell_keep hb3 z0
  have z2 := cell_keep hb3 z2
  have z3 := cell_keep hb3 z3
  have hown := ownsMap_belowI hown hb3
  have hbC := hbB.trans (hb3.mono hbB.size)
  have hw3 := Nat.lt_of_lt_of_le hw1 hb3.size
  clear s2 hbB hb3 z1
  obtain ⟨many, hmany⟩ : ∃ many, goneW ys (max x0 x1) (min x2 x3) = many := ⟨_, rfl⟩
  have hml := gone_lenM ys (max x0 x1) (min x2 x3)
  have hmr : ∀ g, g ∈ many → -9223372036854775808 ≤ g ∧ g ≤ 9223372036854775807 := fun g hg => gone_range HO.out (now := max x0 x1) (most := min x2 x3) (by rw [hmany]; exact hg)
  have hsub : ∀ g, g ∈ few → g ∈ many := fun g hg => by
    rw [← hmany]
    exact gone_mono (n1 := min x0 x1) (m1 := max x2 x3) (by omega) (by omega) (by omega) (by rw [Hfew.out]; exact hg)
  rw [hmany] at s8 hml ⊢
  rw [Hyl.out] at hml
  have Hmr := Lib.hid hmr
  have Hsub := Lib.hid hsub
  clear hmany hmr hsub
  go_wp2_with fail
  go_loopw [55] (fun s55 wx => ∃ (k : Nat) (D : DataW Unit) (sn : List Int), k ≤ many.length ∧ s55 = .int .i64 (k : Int) ∧ wx.ownsMap Try.prog 3 (plainElem Try.prog 3) w1.heap.size k D ∧ Hid (SeenI D sn) ∧ Hid (∀ s, s ∈ sn ↔ s ∈ many.take k) ∧ w3.grownBy wx (some w1.heap.size)) (fun iv _ => many.length - (intOf iv).toNat)
  case atStart => exact ⟨0, .map [], [], by omega, rfl, hown, Lib.hid seenI_empty, Lib.hid (by simp), below_grownBy (Below.refl _ _) _⟩
  case round =>
    obtain ⟨k, D, sn, hk, rfl, hmap, HD, Hsn, hg⟩ := hrel
    rename World => wx
    have hgs := hg.size
    have hbx := hbC.grown hg (by omega) (by intro j hj; cases hj; exact hwb)
    by_cases hkm : k < many.length
    · obtain ⟨x, hx⟩ : ∃ x, many[k]? = some x := ⟨_, List.getElem?_eq_getElem hkm⟩
      obtain ⟨ad8, h81, h82⟩ := slI_cell (s8.grownM hown hg) hx
      have hxr := Hmr.out x (List.mem_of_getElem? hx)
      have Hx := Lib.hid hx
      cases h81
      clear hx
      go_wp2_with (at_mapUpdate; refine wpList_mapUpdate_own _ rfl _ _ _ 65 rfl 3 3 lawI Try.underlying65 _ w1.heap.size k _ rfl hmap (by unfold maxLen; omega) _ _ _ rfl rfl (keyI hxr) _ [] (plainElem_int Try.underlying3 (by decide)) ?_; intro w5 hmap5 hgr5)
      go_roundw
      case rel => exact ⟨k + 1, _, x :: sn, by omega, by go_num, hmap5, Lib.hid (HD.out.put hmap.isMap x), Lib.hid (fun s => by rw [take_snocM Hx.out, List.mem_append, List.mem_cons, Hsn.out s]; simp [or_comm]), hg.trans hgr5⟩
      case measure => simp [intOf]; omega
    · obtain rfl : k = many.length := by omega
      have s4 := s3.grownM hown hg
      have s7 := s7.grownM hown hg
      have z0 := cell_grownM hown hg z0
      have z2 := cell_grownM hown hg z2
      have z3 := cell_grownM hown hg z3
      have Hm : Hid (∀ g, g ∈ few → g ∈ sn) := Lib.hid (fun g hg => by rw [Hsn.out g, List.take_length]; exact Hsub.out g hg)
      clear Hsn Hsub s3 s8 hown hbC hg
      go_wp2_with fail
      go_loopw [64] (fun s64 wy => ∃ (q : Nat), q ≤ few.length ∧ s64 = .int .i64 (q : Int) ∧ wx = wy) (fun iv _ => few.length - (intOf iv).toNat)
      case atStart => exact ⟨0, by omega, rfl, rfl⟩
      case round =>
        obtain ⟨q, hq, rfl, rfl⟩ := hrel
        by_cases hqm : q < few.length
        · obtain ⟨x, hx⟩ : ∃ x, few[q]? = some x := ⟨_, List.getElem?_eq_getElem hqm⟩
          obtain ⟨ad7, h71, h72⟩ := slI_cell s7 hx
          have hxm := Hm.out x (List.mem_of_getElem? hx)
          have hxr : -9223372036854775808 ≤ x ∧ x ≤ 9223372036854775807 := gone_range HO.out (now := min x0 x1) (most := max x2 x3) (by rw [Hfew.out]; exact List.mem_of_getElem? hx)
          have hlook := HD.out.look hmap hxr
          rw [if_pos hxm] at hlook
          cases h71
          clear hx hxm
          go_wp2_with fail
          go_roundw
          case rel => exact ⟨q + 1, by omega, by go_num, trivial⟩
          case measure => simp [intOf]; omega
        · obtain rfl : q = few.length := by omega
          clear HD hmap s7
          go_wp2_with fail
          refine (seenW_any A m7 d ys id x0 _ s4 (by omega)).mono ?_; rintro x w5 ⟨A5, n5, c5, rfl, s5, hb5⟩
          have z0 := cell_keep hb5 z0
          have z2 := cell_keep hb5 z2
          have z3 := cell_keep hb5 z3
          have hbD := hbx.trans (hb5.mono hbx.size)
          have hn5 := slW_len s5
          have hl5 := seen_lenM ys id x0
          rw [Hyl.out] at hl5
          have hn71 : n5 ≤ 71 := by omega
          clear hn5 hl5 s4 hbx hb5
          obtain ⟨zs, hzs⟩ : ∃ zs, zs = (seenW ys id x0).1 := ⟨_, rfl⟩
          obtain ⟨er, her⟩ : ∃ er, er = (seenW ys id x0).2 := ⟨_, rfl⟩
          rw [← hzs] at s5
          rw [← her]
          by_cases her0 : er = 0
          · subst her0
            have hfr := seen_fresh (show seenW ys id x0 = (zs, 0) by rw [hzs, her])
            clear hzs her
            have Hfr := Lib.hid hfr
            clear hfr
            go_wp2_with fail
            refine (wgone_any A5 n5 c5 zs _ _ _ s5 (by omega)).mono ?_; rintro x w6 ⟨A6, c6, rfl, s6, hb6⟩
            have hbE := hbD.trans (hb6.mono hbD.size)
            obtain ⟨gs, hgs⟩ : ∃ gs, gs = goneW zs x0 (min x2 x3) := ⟨_, rfl⟩
            have hgl := gone_lenM zs x0 (min x2 x3)
            have hne : ∀ g, g ∈ gs → g ≠ id := fun g hg => gone_fresh Hfr.out.1 Hfr.out.2 (most := min x2 x3) (by rw [← hgs]; exact hg)
            rw [← hgs] at s6 hgl ⊢
            have hzl := slW_len s5
            have hgl2 : gs.length ≤ 71 := by omega
            have Hne := Lib.hid hne
            clear hgs hzl hgl hne Hfr s5 hb6 hbD
            go_wp2_with fail
            go_loopw [94] (fun s94 wy => ∃ (q : Nat), q ≤ gs.length ∧ s94 = .int .i64 (q : Int) ∧ w6 = wy) (fun iv _ => gs.length - (intOf iv).toNat)
            case atStart => exact ⟨0, by omega, rfl, rfl⟩
            case round =>
              obtain ⟨q, hq, rfl, rfl⟩ := hrel
              by_cases hqm : q < gs.length
              · obtain ⟨x, hx⟩ : ∃ x, gs[q]? = some x := ⟨_, List.getElem?_eq_getElem hqm⟩
                obtain ⟨ad6, h61, h62⟩ := slI_cell s6 hx
                have hxi := Hne.out x (List.mem_of_getElem? hx)
                cases h61
                clear hx
                go_wp2_with fail
                go_roundw
                case rel => exact ⟨q + 1, by omega, by go_num, trivial⟩
                case measure => simp [intOf]; omega
              · obtain rfl : q = gs.length := by omega
                clear s6
                go_wp2_with fail
                refine (awake19_any _).mono ?_; rintro x w9 ⟨rfl, hn9⟩
                go_wp2_with fail
                go_ret
                exact ⟨rfl, hbE.trans (hn9.mono hbE.size)⟩
          · clear hzs her s5
            go_wp2_with fail
            refine (awake19_any _).mono ?_; rintro x w9 ⟨rfl, hn9⟩
            go_wp2_with fail
            go_ret
            exact ⟨rfl, hbD.trans (hn9.mono hbD.size)⟩
end Go.Proofs.Ytphjmbhlokkdiaa
