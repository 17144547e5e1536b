import Derived.Test.YtemegkapmgcffaaRtSpoil
import Derived.Test.YtemegkapmgcffaaRowsR
import Derived.Deep.CutBlock
import Derived.Deep.DeepCutAuto
import Derived.Deep.RegionWith
/- RootSpoilt: the walk (printed by wip/gen/grtspoilt.py). -/
namespace Go.Proofs.Ytemegkapmgcffaa
open Go.RowKit
set_option linter.unusedSimpArgs false
set_option linter.unusedVariables false

theorem infoRoot : (Try.prog.info? 24).map (fun i => (i.zero, i.size, i.bytes)) = some (some (.agg #[.int .i64 0, .int .i64 0, .slice none 0 0]), 3, 40) := by kernel_rfl
theorem sl_lit3s (w : World) (cs : List Value) (t : TypeId) (n : Nat) (h : cs.length = n * 3) : Sl (w.alloc (.cells cs.toArray t)) 3 (some ⟨w.heap.size, 0, none⟩) n n cs := by
  refine ⟨fun j u hj => ⟨_, rfl, ?_⟩, h, Nat.le_refl _, fun h => by cases h⟩
  rw [add_plain, cell_of_row _ w.heap.size j cs.toArray t (0, 0) (heap_alloc_new w _)]
  simpa using hj
theorem oneCells {s b : Int} {A : Option Addr} {n c : Nat} : ∀ u ∈ ([.int .i64 s, .int .i64 b, .slice A n c] : List Value), u.oneCell' = true := by
  intro u hu
  simp only [List.mem_cons, List.not_mem_nil, or_false] at hu
  rcases hu with rfl | rfl | rfl <;> rfl
theorem DskM.oldK {W w : World} {p : Nat} {D : Dk} {L : List Rsl} {K : List (Nat × Obj)} {q : Nat} {o : Obj} (h : DskM W w p D L K) (ho : W.heap[q]? = some o) : DskM W w p D L ((q, o) :: K) := by
  obtain ⟨F, h1, h2, h3, h4⟩ := h
  refine ⟨F, h1, h2, h3, fun κ hk => ?_⟩
  rcases List.mem_cons.1 hk with h5 | h5
  · subst h5
    exact ⟨(h2.block _ (heap_lt ho)).trans ho, fun hf => by have := (h1.bound _ hf).1; have := heap_lt ho; simp only at *; omega⟩
  · exact h4 κ h5
/-- a root in the rows that were written -/
def rowRt (r : Rt) (A : Option Addr) (c : Nat) : Ro := ⟨r.s, r.b, r.x, A, c⟩
/-- what holds along the first loop: the disk, the roots written so far (rows at A), the last two roots' blobs -/
structure Sp (W w : World) (p db gb nb : Nat) (gone : Bool) (nz : Nat) (n : Nat) (now ahead : Rt) (b c : Slot) (A : Option Addr) (cp : Nat) (rows : List Ro) : Prop where
  len : rows.length = n
  app : App W.heap.size 24 3 w A n cp (flatRo rows)
  base : ∀ a, A = some a → W.heap.size ≤ a.block ∧ a.block ≠ db
  st : St n now ahead b c
  short : now.x.length ≤ 100 ∧ ahead.x.length ≤ 100
  dsk : ∃ NA nc HA hc Kw, Wq A Kw ∧ DskM W w p ⟨1048576, -1, false, mkS none b c⟩ [⟨NA, now.x.length, nc, now.x⟩, ⟨HA, ahead.x.length, hc, ahead.x⟩] (Kw ++ [(db, Obj.cells #[.pointer (some ⟨p, 0, none⟩)] 34), (gb, Obj.cells #[.bool gone] 4), (nb, Obj.cells #[.int .u8 (nz : Int)] 5)]) ∧
    (1 ≤ n → rows[n - 1]? = some (rowRt now NA nc)) ∧ (2 ≤ n → rows[n - 2]? = some (rowRt ahead HA hc)) ∧ (bytesV now.x ≠ [] → ∀ a, NA = some a → ∀ a', A = some a' → a.block ≠ a'.block) ∧ (bytesV ahead.x ≠ [] → ∀ a, HA = some a → ∀ a', A = some a' → a.block ≠ a'.block)
theorem Sp.bel {W w : World} {p db gb nb : Nat} {gone : Bool} {nz n : Nat} {now ahead : Rt} {b c : Slot} {A : Option Addr} {cp : Nat} {rows : List Ro} (h : Sp W w p db gb nb gone nz n now ahead b c A cp rows) : Below W.heap.size W w := by
  obtain ⟨NA, nc, HA, hc, Kw, h1, h2, h3⟩ := h.dsk
  exact h2.bel
set_option maxRecDepth 100000 in
set_option maxHeartbeats 64000000 in
theorem spoilt6_any {W0 : World} {A : Option Addr} {m c0 : Nat} {es : List Ro} (s : Sl W0 3 A m c0 (flatRo es)) (ok : ∀ e, e ∈ es → OkRo W0 e) (hn : m ≤ 9223372036854775807) (one two : Int) (nz : Nat) (hnz : nz ≤ 255) (gone : Bool) :
    Calls Try.prog 9 #[.slice A m c0, .int .i64 one, .int .i64 two, .int .u8 (nz : Int), .bool gone] W0 fun x w' => x = .returned (.bool true) ∧ Below W0.heap.size W0 w' := by
  have hln := slR_len s
  have hb1 := below_alloc1 W0 (.cells #[.int .u8 (nz : Int)] 5)
  have hn1 := heap_alloc_new W0 (.cells #[.int .u8 (nz : Int)] 5)
  obtain ⟨W1, hW1⟩ : ∃ W1, W1 = W0.alloc (.cells #[.int .u8 (nz : Int)] 5) := ⟨_, rfl⟩
  have hs1 : W1.heap.size = W0.heap.size + 1 := by rw [hW1]; simp
  rw [← hW1] at hb1 hn1
  have hb2 := below_alloc1 W1 (.cells #[.bool gone] 4)
  have hg2 := heap_alloc_new W1 (.cells #[.bool gone] 4)
  obtain ⟨W, hW⟩ : ∃ W, W = W1.alloc (.cells #[.bool gone] 4) := ⟨_, rfl⟩
  rw [← hW] at hb2 hg2
  have hn2 : W.heap[W0.heap.size]? = some (.cells #[.int .u8 (nz : Int)] 5) := (hb2.block _ (by omega)).trans hn1
  have hB := hb1.trans (hb2.mono hb1.size)
  have eW : (W0.alloc (.cells #[.int .u8 (nz : Int)] 5)).alloc (.cells #[.bool gone] 4) = W := by rw [hW, hW1]
  have S := Lib.hid (s.below hB)
  have OK := Lib.hid (fun e he => (ok e he).below hB)
  have Hln := Lib.hid hln
  have HB0 := Lib.hid hB
  have HG2 := Lib.hid hg2
  have HN2 := Lib.hid hn2
  obtain ⟨gb, hgb⟩ : ∃ gb, gb = W1.heap.size := ⟨_, rfl⟩
  obtain ⟨nb, hnb⟩ : ∃ nb, nb = W0.heap.size := ⟨_, rfl⟩
  rw [← hgb] at HG2
  rw [← hnb] at HN2
  have hgb2 : gb = nb + 1 := by omega
  have hWs : W.heap.size = nb + 2 := by rw [hW]; simp; omega
  clear s ok hln hb1 hn1 hW1 hb2 hg2 hW hn2 hB hs1 hgb
  have hnew : newD 1048576 = ⟨1048576, -1, false, mkS none none none⟩ := rfl
  go_enter Try.func9, Try.ntmps9
  go_upto_region 1 with fail
  clear eW
  go_wp2_with fail
  refine (new_dsk (Below.refl W.heap.size W) (by decide)).mono ?_; rintro x w0 ⟨p, rfl, h0⟩
  rw [hnew] at h0
  have h1 := (((DskM.of h0).oldK HN2.out).oldK HG2.out).alloc (.cells #[.pointer (some ⟨p, 0, none⟩)] 34)
  obtain ⟨db, hdb⟩ : ∃ db, db = w0.heap.size := ⟨_, rfl⟩
  have hdbs : W.heap.size ≤ db := by rw [hdb]; exact h0.bel.size
  rw [← hdb] at h1
  have H1 := Lib.hid (show Sp W (w0.alloc (.cells #[.pointer (some ⟨p, 0, none⟩)] 34)) p db gb nb gone nz 0 rt0 rt0 none none none 0 [] from
    ⟨rfl, .inl (World.ownsRow_nil _ _ _ _), (fun a ha => by cases ha), ⟨rfl, .inl ⟨rfl, rfl, rfl, rfl⟩⟩, ⟨by decide, by decide⟩, none, 0, none, 0, [], (fun a ha => by cases ha), (h1.old (ρ := ⟨none, 0, 0, []⟩) (Sl.nil _ _)).old (ρ := ⟨none, 0, 0, []⟩) (Sl.nil _ _), (fun h => by omega), (fun h => by omega), (fun _ a ha => by cases ha), (fun _ a ha => by cases ha)⟩)
  have HDS := Lib.hid hdbs
  clear h0 h1 hnew hdbs
  go_wp2_with fail
  rw [← hdb, ← hnb, ← hgb2]
  have HNB := Lib.hid (And.intro hgb2 hWs)
  clear hdb hnb hgb2 hWs
  go_loopw [13, 14] (fun s13 s14 wx => ∃ (i n : Nat) (now ahead : Rt) (b c : Slot) (WA : Option Addr) (cp : Nat) (rows : List Ro), i ≤ m ∧ i ≤ 10 ∧ n ≤ i ∧ s13 = .slice WA n cp ∧ s14 = .int .i64 (i : Int) ∧ Hid (Sp W wx p db gb nb gone nz n now ahead b c WA cp rows)) (fun _ iv _ => 10 - (intOf iv).toNat)
  case atStart => exact ⟨0, 0, rt0, rt0, none, none, none, 0, [], by omega, by omega, by omega, rfl, rfl, H1⟩
  case round =>
    obtain ⟨i, n, now, ahead, b, c, WA, cp, rows, hi, hi10, hni, rfl, rfl, HI⟩ := hrel
    clear H1
    by_cases g1 : (i : Int) < (m : Int)
    · by_cases g2 : (i : Int) < 10
      · obtain ⟨NA, nc, HA, hc, Kw, hWq, hM, hr1, hr2, hap1, hap2⟩ := HI.out.dsk
        obtain ⟨d, hd⟩ := get_some es i (by rw [Hln.out]; omega)
        have hs := S.out.below hM.bel
        obtain ⟨ad, rfl⟩ := slR_addr hs hd
        obtain ⟨y0, y1, y2⟩ := slR_three hs hd
        have hin : (0 : Int) ≤ (i : Int) ∧ (i : Int) < (m : Int) := by omega
        have Hd := Lib.hid (OK.out d (List.mem_of_getElem? hd))
        have Hhd := Lib.hid hd
        have HM := Lib.hid hM
        have HWq := Lib.hid hWq
        have HR := Lib.hid (And.intro hr1 (And.intro hr2 (And.intro hap1 hap2)))
        have hdc := hM.cellK (q := db) (j := 0) (List.mem_append_right _ (List.mem_cons_self ..)) rfl
        clear hs hd hM hWq hr1 hr2 hap1 hap2
        by_cases g3 : (100 : Int) < (d.x.length : Int)
        · go_wp2_with fail
          go_roundw
          case rel => exact ⟨i + 1, n, now, ahead, b, c, WA, cp, rows, by omega, by omega, by omega, rfl, by go_num, HI⟩
          case measure => simp [intOf]; omega
        · obtain ⟨D', q, e, hwd⟩ : ∃ D' q e, writeF ⟨1048576, -1, false, mkS none b c⟩ d.b d.x = (D', q, e) := ⟨_, _, _, rfl⟩
          have HWD := Lib.hid hwd
          clear hwd
          have HMo : Hid (∀ w', Below wr.heap.size wr w' → DskM W w' p ⟨1048576, -1, false, mkS none b c⟩ [⟨d.A, d.x.length, d.c, d.x⟩, ⟨NA, now.x.length, nc, now.x⟩, ⟨HA, ahead.x.length, hc, ahead.x⟩] (Kw ++ [(db, Obj.cells #[.pointer (some ⟨p, 0, none⟩)] 34), (gb, Obj.cells #[.bool gone] 4), (nb, Obj.cells #[.int .u8 (nz : Int)] 5)])) := Lib.hid fun w' hb => (HM.out.below hb).old (ρ := ⟨d.A, d.x.length, d.c, d.x⟩) Hd.out.x.1
          go_upto_region 9 with fail
          go_cut [15, 16] from 51 to 59 (fun s15 s16 wx => ∃ (g : Nat) (RA : Option Addr) (rc : Nat), s15 = .pointer (some ⟨g, 0, none⟩) ∧ s16 = .int .i64 e ∧ Hid (DskM W wx p D' [⟨RA, q.x.length, rc, q.x⟩, ⟨NA, now.x.length, nc, now.x⟩, ⟨HA, ahead.x.length, hc, ahead.x⟩] ((g, rtO q.s q.b RA q.x.length rc) :: (Kw ++ [(db, Obj.cells #[.pointer (some ⟨p, 0, none⟩)] 34), (gb, Obj.cells #[.bool gone] 4), (nb, Obj.cells #[.int .u8 (nz : Int)] 5)])) ∧ ∀ a, RA = some a → wr.heap.size ≤ a.block))
          case first =>
            have HWr := Lib.hid HM.out.bel.size
            have HNL := Lib.hid (show d.x.length ≤ 100000000 by omega)
            have HM1 := Lib.hid (HMo.out wr.drew (Below.refl _ _).drew)
            have HM2 := Lib.hid (((HMo.out wr (Below.refl _ _)).alloc (rtO 0 0 none 0 0)).below (Below.refl _ _).drew)
            have hba := below_alloc1 wr (.cells #[.int .i64 0, .int .i64 0, .slice none 0 0] 24)
            have ya0 := cellB hba y0
            have ya1 := cellB hba y1
            have ya2 := cellB hba y2
            have hdca := cellB hba hdc
            clear hba
            have HC1 := Lib.hid (rwrite_mn HM1.out d.s d.b (List.mem_cons_self ..) HNL.out HWD.out)
            have HC2 := Lib.hid (rwrite_mn HM2.out d.s d.b (List.mem_cons_self ..) HNL.out HWD.out)
            go_region_with (first
              | (go_at_call 27; refine HC1.out.mono ?_; rintro x w2 ⟨RA, rc, rfl, h2, h3⟩)
              | (go_at_call 27; refine HC2.out.mono ?_; rintro x w2 ⟨RA, rc, rfl, h2, h3⟩; have oz := rtO_own (base := W.heap.size) (h2.held (List.mem_cons_self ..)) HWr.out; have f0 := World.ownsRow.frozenAt oz 0; have f1 := World.ownsRow.frozenAt oz 1; have f2 := World.ownsRow.frozenAt oz 2; have z0 := World.ownsRow.cellAt oz 0 (by omega); have z1 := World.ownsRow.cellAt oz 1 (by omega); have z2 := World.ownsRow.cellAt oz 2 (by omega); simp only [List.getElem?_cons_zero, List.getElem?_cons_succ] at z0 z1 z2))
            all_goals (go_wp2_with fail)
            all_goals (go_meet)
            all_goals (first
              | exact ⟨w2.heap.size, RA, rc, rfl, rfl, Lib.hid ⟨(h2.alloc (rtO q.s q.b RA q.x.length rc)).sub (fun ρ hr => by simp only [List.mem_cons, List.not_mem_nil, or_false] at hr; rcases hr with h | h | h <;> simp [h]), fun a ha => h3 a ha⟩⟩
              | exact ⟨wr.heap.size, RA, rc, rfl, rfl, Lib.hid ⟨(h2.store HWr.out (fun κ hk => Nat.ne_of_lt (heap_lt (HM.out.held (q := κ.1) (o := κ.2) hk))) (stored3R oz (.int .i64 q.s) (.int .i64 q.b) (.slice RA q.x.length rc)).2 (stored3R oz (.int .i64 q.s) (.int .i64 q.b) (.slice RA q.x.length rc)).1).sub (fun ρ hr => by simp only [List.mem_cons, List.not_mem_nil, or_false] at hr; rcases hr with h | h | h <;> simp [h]), fun a ha => Nat.le_trans (by simp) (h3 a ha)⟩⟩)
          case rest =>
            obtain ⟨g, RA, rc, rfl, rfl, HD⟩ := hcut
            obtain ⟨hr1, hr2, hap1, hap2⟩ := HR.out
            have HWA : Hid (∀ a, WA = some a → a.block < wr.heap.size) := Lib.hid fun a ha => by
              obtain ⟨o, ho⟩ := HWq.out a ha
              exact heap_lt (HM.out.held (List.mem_append_left _ ho))
            rcases HI.out.st.step HI.out.short.1 HI.out.short.2 (by decide : 100 ≤ 1000) (room := 1048576) (by decide) d.b d.x (by omega) with ⟨j1, j2⟩ | ⟨hk, b', c', j2, j3, j4⟩
            · have hh := HWD.out
              rw [j2] at hh
              simp only [Prod.mk.injEq] at hh
              obtain ⟨rfl, rfl, rfl⟩ := hh
              have hd9 := (HD.out.1.subK (K' := Kw ++ [(db, Obj.cells #[.pointer (some ⟨p, 0, none⟩)] 34), (gb, Obj.cells #[.bool gone] 4), (nb, Obj.cells #[.int .u8 (nz : Int)] 5)]) (fun κ hk => List.mem_cons_of_mem _ hk)).tl
              have HN := Lib.hid (show Sp W wc p db gb nb gone nz n now ahead b c WA cp rows from
                ⟨HI.out.len, HI.out.app.stays HM.out hd9 HWq.out, HI.out.base, HI.out.st, HI.out.short, NA, nc, HA, hc, Kw, HWq.out, hd9, hr1, hr2, hap1, hap2⟩)
              clear j1 j2 hd9 hr1 hr2 hap1 hap2
              go_wp2_with fail
              go_roundw
              case rel => exact ⟨i + 1, n, now, ahead, b, c, WA, cp, rows, by omega, by omega, by omega, rfl, by go_num, HN⟩
              case measure => simp [intOf]; omega
            · have hh := HWD.out
              rw [j2] at hh
              simp only [Prod.mk.injEq] at hh
              obtain ⟨rfl, rfl, rfl⟩ := hh
              have hd8 := HD.out.1
              have r0 := hd8.cellK (q := g) (j := 0) (List.mem_cons_self ..) rfl
              have r1 := hd8.cellK (q := g) (j := 1) (List.mem_cons_self ..) rfl
              have r2 := hd8.cellK (q := g) (j := 2) (List.mem_cons_self ..) rfl
              have hd9 := (hd8.subK (K' := Kw ++ [(db, Obj.cells #[.pointer (some ⟨p, 0, none⟩)] 34), (gb, Obj.cells #[.bool gone] 4), (nb, Obj.cells #[.int .u8 (nz : Int)] 5)]) (fun κ hk => List.mem_cons_of_mem _ hk))
              have hap := HI.out.app.stays HM.out hd9 HWq.out
              have hsl1 := sl_lit3s wc [.int .i64 ((n : Int) + 1), .int .i64 d.b, .slice RA d.x.length rc] 24 1 rfl
              have hb9 := below_alloc1 wc (.cells #[.int .i64 ((n : Int) + 1), .int .i64 d.b, .slice RA d.x.length rc] 24)
              have hapl : App W.heap.size 24 3 (wc.alloc (.cells #[.int .i64 ((n : Int) + 1), .int .i64 d.b, .slice RA d.x.length rc] 24)) WA n cp (flatRo rows) := App.alloc hap _
              have hWc := hd9.bel.size
              have HST := Lib.hid j3
              have HD9 := Lib.hid (hd9.below hb9)
              have HRlt := Lib.hid (fun hne a ha => hd9.lt (List.mem_cons_self ..) hne a ha)
              have HNlt := Lib.hid (fun hne a ha => hd9.lt (List.mem_cons_of_mem _ (List.mem_cons_self ..)) hne a ha)
              have HWs := Lib.hid (show W.heap.size ≤ wc.heap.size from hWc)
              have HAP := Lib.hid (And.intro hr1 (And.intro hap1 hap2))
              clear j2 j3 j4 hk hd8 hd9 hap hb9 hr1 hr2 hap1 hap2
              go_wp2_with (at_builtin; refine wpList_app _ rfl _ _ 44 rfl W.heap.size 24 (.agg #[.int .i64 0, .int .i64 0, .slice none 0 0]) 3 40 Try.underlying44 infoRoot rfl (by decide) WA n cp (flatRo rows) rfl hapl (some ⟨wc.heap.size, 0, none⟩) 1 1 [.int .i64 ((n : Int) + 1), .int .i64 d.b, .slice RA d.x.length rc] rfl hsl1 oneCells (by unfold maxLen; omega) (by omega) (by simp; omega) ?_; intro A2 cp2 w3 hat)
              have hrows : flatRo rows ++ [.int .i64 ((n : Int) + 1), .int .i64 d.b, .slice RA d.x.length rc] = flatRo (rows ++ [rowRt ⟨(n : Int) + 1, d.b, d.x⟩ RA rc]) := by simp [flatRo, roC, rowRt]
              rw [hrows] at hat
              obtain ⟨Kw', hWq', hD'⟩ := HD9.out.appendRow HWq.out (fun a ha => (HI.out.base a ha).1) (fun ρ hr hne a ha a' ha' => by
                simp only [List.mem_cons, List.not_mem_nil, or_false] at hr
                rcases hr with rfl | rfl | rfl
                · have h5 := HD.out.2 a ha
                  have h6 := HWA.out a' ha'
                  omega
                · exact HAP.out.2.1 hne a ha a' ha'
                · exact HAP.out.2.2 hne a ha a' ha') (fun κ hk a ha => by
                have h6 := HI.out.base a ha
                have h7 := HNB.out
                simp only [List.mem_cons, List.not_mem_nil, or_false] at hk
                intro he
                rcases hk with rfl | rfl | rfl <;> simp only at he <;> omega) hat (by rw [← hrows]; simp)
              have hdbl := heap_lt (HD.out.1.held (q := db) (List.mem_cons_of_mem _ (List.mem_append_right _ (List.mem_cons_self ..))))
              have hWs := HWs.out
              have HN := Lib.hid (show Sp W w3 p db gb nb gone nz (n + 1) ⟨(n : Int) + 1, d.b, d.x⟩ now b' c' A2 cp2 (rows ++ [rowRt ⟨(n : Int) + 1, d.b, d.x⟩ RA rc]) from
                ⟨by simp [HI.out.len], hat.app, fun a ha => by
                  rcases hat.lies a ha with ⟨a0, k1, k2⟩ | k1
                  · have := HI.out.base a0 k1
                    omega
                  · simp at k1
                    omega, HST.out, ⟨by show d.x.length ≤ 100; omega, HI.out.short.1⟩, RA, rc, NA, nc, Kw', hWq', hD'.sub (fun ρ hr => by simp only [List.mem_cons, List.not_mem_nil, or_false] at hr; rcases hr with h | h <;> simp [h]),
                  fun _ => by
                    have := HI.out.len
                    rw [List.getElem?_append_right (by omega)]
                    simp [this], fun h2 => by
                    have := HI.out.len
                    rw [List.getElem?_append_left (by omega)]
                    exact HAP.out.1 (by omega), fun hne a ha a' ha' => by
                    rcases hat.lies a' ha' with ⟨a0, k1, k2⟩ | k1
                    · have h5 := HD.out.2 a ha
                      have h6 := HWA.out a0 k1
                      omega
                    · have h5 := HRlt.out hne a ha
                      simp at k1
                      omega, fun hne a ha a' ha' => by
                    rcases hat.lies a' ha' with ⟨a0, k1, k2⟩ | k1
                    · have h5 := HAP.out.2.1 hne a ha a0 k1
                      omega
                    · have h5 := HNlt.out hne a ha
                      simp at k1
                      omega⟩)
              clear hat hWq' hD' hapl hsl1 r0 r1 r2 hrows hdbl hWs hWc
              go_wp2_with fail
              go_roundw
              case rel => exact ⟨i + 1, n + 1, ⟨(n : Int) + 1, d.b, d.x⟩, now, b', c', A2, cp2, rows ++ [rowRt ⟨(n : Int) + 1, d.b, d.x⟩ RA rc], by omega, by omega, by omega, rfl, by go_num, HN⟩
              case measure => simp [intOf]; omega
      · obtain rfl : i = 10 := by omega
        have hlen := HI.out.len
        by_cases gn : (n : Int) < 2
        · have hbl := Lib.hid HI.out.bel
          go_wp2_with fail
          refine (awake6_any wr).mono ?_; rintro e wz ⟨rfl, bz⟩
          go_wp2_with fail
          go_ret
          exact ⟨rfl, HB0.out.trans ((hbl.out.trans (bz.mono hbl.out.size)).mono HB0.out.size)⟩
        · obtain ⟨NA, nc, HA, hc, Kw, hWq, hM, hr1, hr2, hap1, hap2⟩ := HI.out.dsk
          obtain ⟨n1, hn1⟩ : ∃ n1, n1 = n - 1 := ⟨_, rfl⟩
          obtain ⟨n2, hn2⟩ : ∃ n2, n2 = n - 2 := ⟨_, rfl⟩
          have e1 := hr1 (by omega)
          have e2 := hr2 (by omega)
          rw [← hn1] at e1
          rw [← hn2] at e2
          have sR := HI.out.app.sl
          obtain ⟨ad, hWA⟩ := slR_addr sR e1
          subst hWA
          obtain ⟨y0, y1, y2⟩ := slR_three sR e1
          obtain ⟨z0, z1, z2⟩ := slR_three sR e2
          have hns : now.s = (n : Int) := HI.out.st.1
          have has : ahead.s = (n1 : Int) := by have := (HI.out.st.ahead (by omega) none).2.2; omega
          simp only [rowRt, hns, has] at y0 y1 y2 z0 z1 z2
          have hw1 : IntKind.i64.wrap ((n : Int) - 1) = (n1 : Int) := by rw [IntKind.wrap_i64]; omega
          have hw2 : IntKind.i64.wrap ((n : Int) - 2) = (n2 : Int) := by rw [IntKind.wrap_i64]; omega
          have hin1 : (0 : Int) ≤ (n1 : Int) ∧ (n1 : Int) < (n : Int) := by omega
          have hin2 : (0 : Int) ≤ (n2 : Int) ∧ (n2 : Int) < (n : Int) := by omega
          have hne : ad.block < wr.heap.size := by
            have h8 := World.block_lt_of_cell? _ _ y0
            rwa [add_block] at h8
          have hne1 : ¬ ad.block = wr.heap.size := by omega
          have hne2 : ¬ ad.block = wr.heap.size + 1 := by omega
          have hM0 := hM.subK (K' := [(db, Obj.cells #[.pointer (some ⟨p, 0, none⟩)] 34), (gb, Obj.cells #[.bool gone] 4), (nb, Obj.cells #[.int .u8 (nz : Int)] 5)]) (fun κ hk => List.mem_append_right _ hk)
          have h12 := (hM0.alloc (rtO (n : Int) now.b NA now.x.length nc)).alloc (rtO (n1 : Int) ahead.b HA ahead.x.length hc)
          have h21 := (hM0.alloc (rtO (n1 : Int) ahead.b HA ahead.x.length hc)).alloc (rtO (n : Int) now.b NA now.x.length nc)
          rw [show (wr.alloc (rtO (n : Int) now.b NA now.x.length nc)).heap.size = wr.heap.size + 1 by simp] at h12
          rw [show (wr.alloc (rtO (n1 : Int) ahead.b HA ahead.x.length hc)).heap.size = wr.heap.size + 1 by simp] at h21
          have H12 := Lib.hid ((h12.below (Below.refl _ _).drew).subK (K' := (wr.heap.size, (rtO (n : Int) now.b NA now.x.length nc)) :: (wr.heap.size + 1, (rtO (n1 : Int) ahead.b HA ahead.x.length hc)) :: [(db, Obj.cells #[.pointer (some ⟨p, 0, none⟩)] 34), (gb, Obj.cells #[.bool gone] 4), (nb, Obj.cells #[.int .u8 (nz : Int)] 5)]) (fun κ hk => by simp only [List.mem_cons, List.not_mem_nil, or_false] at hk ⊢; rcases hk with h | h | h | h | h <;> simp [h]))
          have H21 := Lib.hid (h21.below (Below.refl _ _).drew)
          have HST := Lib.hid HI.out.st
          have HSH := Lib.hid HI.out.short
          have HN1 := Lib.hid (show n = n1 + 1 by omega)
          have HNL := Lib.hid (show 2 ≤ n ∧ n ≤ 10 by omega)
          clear h12 h21 hn1 hn2 e1 e2 hr1 hr2 hap1 hap2 hWq sR hM hM0 hns has hne hlen
          go_upto_region 14 with fail
          go_cut [17, 18] from 70 to 81 (fun s17 s18 wx => ∃ (g h : Nat), s17 = .pointer (some ⟨g, 0, none⟩) ∧ s18 = .pointer (some ⟨h, 0, none⟩) ∧ Hid (DskM W wx p ⟨1048576, -1, false, mkS none b c⟩ [⟨NA, now.x.length, nc, now.x⟩, ⟨HA, ahead.x.length, hc, ahead.x⟩] ((g, (rtO (n : Int) now.b NA now.x.length nc)) :: (h, (rtO (n1 : Int) ahead.b HA ahead.x.length hc)) :: [(db, Obj.cells #[.pointer (some ⟨p, 0, none⟩)] 34), (gb, Obj.cells #[.bool gone] 4), (nb, Obj.cells #[.int .u8 (nz : Int)] 5)])))
          case first =>
            have hq0 := below_alloc1 wr (Obj.cells #[Value.int .i64 0, .int .i64 0, .slice none 0 0] 24)
            have y0q0 := cellB hq0 y0
            have y1q0 := cellB hq0 y1
            have y2q0 := cellB hq0 y2
            have z0q0 := cellB hq0 z0
            have z1q0 := cellB hq0 z1
            have z2q0 := cellB hq0 z2
            clear hq0
            have hq1 := (below_alloc1 wr (Obj.cells #[Value.int .i64 0, .int .i64 0, .slice none 0 0] 24)).trans ((below_alloc1 (wr.alloc (Obj.cells #[Value.int .i64 0, .int .i64 0, .slice none 0 0] 24)) (Obj.cells #[Value.int .i64 0, .int .i64 0, .slice none 0 0] 24)).mono (below_alloc1 wr (Obj.cells #[Value.int .i64 0, .int .i64 0, .slice none 0 0] 24)).size)
            have y0q1 := cellB hq1 y0
            have y1q1 := cellB hq1 y1
            have y2q1 := cellB hq1 y2
            have z0q1 := cellB hq1 z0
            have z1q1 := cellB hq1 z1
            have z2q1 := cellB hq1 z2
            clear hq1
            have hq2 := (below_alloc1 wr (Obj.cells #[Value.int .i64 (n : Int), .int .i64 now.b, .slice NA now.x.length nc] 24)).trans ((below_alloc1 (wr.alloc (Obj.cells #[Value.int .i64 (n : Int), .int .i64 now.b, .slice NA now.x.length nc] 24)) (Obj.cells #[Value.int .i64 0, .int .i64 0, .slice none 0 0] 24)).mono (below_alloc1 wr (Obj.cells #[Value.int .i64 (n : Int), .int .i64 now.b, .slice NA now.x.length nc] 24)).size)
            have z0q2 := cellB hq2 z0
            have z1q2 := cellB hq2 z1
            have z2q2 := cellB hq2 z2
            clear hq2
            have hq3 := (below_alloc1 wr (Obj.cells #[Value.int .i64 0, .int .i64 0, .slice none 0 0] 24)).trans ((below_alloc1 (wr.alloc (Obj.cells #[Value.int .i64 0, .int .i64 0, .slice none 0 0] 24)) (Obj.cells #[Value.int .i64 (n : Int), .int .i64 now.b, .slice NA now.x.length nc] 24)).mono (below_alloc1 wr (Obj.cells #[Value.int .i64 0, .int .i64 0, .slice none 0 0] 24)).size)
            have z0q3 := cellB hq3 z0
            have z1q3 := cellB hq3 z1
            have z2q3 := cellB hq3 z2
            clear hq3
            go_region
            all_goals (go_wp2_with fail)
            all_goals go_meet
            all_goals (first
              | exact ⟨wr.heap.size, wr.heap.size + 1, rfl, rfl, H12⟩
              | exact ⟨wr.heap.size + 1, wr.heap.size, rfl, rfl, H21⟩)
          case rest =>
            obtain ⟨g, h, rfl, rfl, HD⟩ := hcut
            clear y0 y1 y2 z0 z1 z2 hw1 hw2 hin1 hin2 hne1 hne2 H12 H21 g1 gn
            have hlb := HST.out.len HSH.out.1 HSH.out.2 (by decide)
            have hnow := HST.out.now (by have := HNL.out; omega)
            have x0 := HD.out.cellK (q := g) (j := 0) (List.mem_cons_self ..) rfl
            have c1 := spoil_any HD.out (gb := gb) (db := db) (nb := nb) (gone := gone) (nz := nz) (by simp) (by simp) (by simp) hnz n (by have := HNL.out; omega) now hnow.2 hnow.1 (by omega) one
            clear hlb hnow
            go_wp2_with fail
            refine c1.mono ?_; rintro e w1 ⟨rfl, o, hbad, hol, h1⟩
            have hro : rootS (putB n o b) (putC n o c) = ⟨(n1 : Int), ahead.b, ahead.x⟩ := by
              have h8 := HST.out.spoilt HNL.out.1 hbad
              have h9 := (HST.out.ahead HNL.out.1 none).2.2
              rw [h8]
              have h10 := HN1.out
              cases ahead
              simp only at h9
              subst h9
              congr 1
              omega
            have hrd : readRD ⟨1048576, -1, false, mkS none (putB n o b) (putC n o c)⟩ = (⟨(n1 : Int), ahead.b, ahead.x⟩, true, 0) := by
              rw [readRD_S, hro]
              have h10 := HN1.out
              have h11 := HNL.out
              simp only [Prod.mk.injEq, true_and, and_true]
              exact decide_eq_true (by omega)
            have HBAD := Lib.hid (And.intro hbad hol)
            have c2 := rread_m h1 hrd
            have xd := h1.cellK (q := db) (j := 0) (List.mem_cons_of_mem _ (List.mem_cons_of_mem _ (List.mem_cons_self ..))) rfl
            clear c1 x0 hro hrd hbad hol
            go_wp2_with fail
            refine c2.mono ?_; rintro e w2 ⟨RA, rc, rfl, h2⟩
            have h3 := h2.alloc (.cells #[.int .i64 (n1 : Int), .int .i64 ahead.b, .slice RA ahead.x.length rc] 24)
            clear c2 xd h1
            go_upto_region 18 with fail
            obtain ⟨w3, hw3⟩ : ∃ w3, w3 = w2.alloc (.cells #[.int .i64 (n1 : Int), .int .i64 ahead.b, .slice RA ahead.x.length rc] 24) := ⟨_, rfl⟩
            obtain ⟨bx, hbx⟩ : ∃ bx, bx = w2.heap.size := ⟨_, rfl⟩
            rw [← hw3, ← hbx] at h3 ⊢
            clear hw3 hbx h2
            have x1 := h3.cellK (q := h) (j := 0) (List.mem_cons_of_mem _ (List.mem_cons_of_mem _ (List.mem_cons_self ..))) rfl
            have hah := HST.out.ahead HNL.out.1 o
            rw [show n - 1 = n1 by have := HN1.out; omega] at hah
            have hlb := HST.out.len HSH.out.1 HSH.out.2 (by decide)
            have hlp := slen_put n o b c
            have c3 := spoil_any h3 (gb := gb) (db := db) (nb := nb) (gone := gone) (nz := nz) (by simp) (by simp) (by simp) hnz n1 (by have := HNL.out; have := HN1.out; omega) ahead hah.2.1 hah.1 (by have := HBAD.out.2; omega) two
            clear hah hlb hlp h3
            go_wp2_with fail
            refine c3.mono ?_; rintro e w4 ⟨rfl, o2, hbad2, hol2, h4⟩
            have hrd2 : readRD ⟨1048576, -1, false, mkS none (putB n1 o2 (putB n o b)) (putC n1 o2 (putC n o c))⟩ = (rt0, false, 0) := by
              have h8 := St.spoilt2 (b := b) (c := c) HNL.out.1 HBAD.out.1 hbad2
              rw [show n - 1 = n1 by have := HN1.out; omega] at h8
              rw [readRD_S, h8]
              rfl
            have c4 := rread_m h4 hrd2
            have xd := h4.cellK (q := db) (j := 0) (List.mem_cons_of_mem _ (List.mem_cons_of_mem _ (List.mem_cons_of_mem _ (List.mem_cons_self ..)))) rfl
            clear c3 x1 hrd2 hbad2 hol2
            go_wp2_with fail
            refine c4.mono ?_; rintro e w5 ⟨SA, sc, rfl, h5⟩
            simp only [rt0] at h5 ⊢
            clear c4 xd h4
            have q0 := box_cellsR w5 [.int .i64 0, .int .i64 0, .slice SA 0 sc] 24 0 _ rfl
            have q1 := box_cellsR w5 [.int .i64 0, .int .i64 0, .slice SA 0 sc] 24 1 _ rfl
            have q2 := box_cellsR w5 [.int .i64 0, .int .i64 0, .slice SA 0 sc] 24 2 _ rfl
            have qb := below_alloc1 w5 (.cells #[.int .i64 0, .int .i64 0, .slice SA 0 sc] 24)
            have h6 := h5.below qb
            go_upto_region 20 with fail
            obtain ⟨w6, hw6⟩ : ∃ w6, w6 = w5.alloc (.cells #[.int .i64 0, .int .i64 0, .slice SA 0 sc] 24) := ⟨_, rfl⟩
            have hTw6 : (w5.alloc (.cells [Value.int .i64 0, .int .i64 0, .slice SA 0 sc].toArray 24)) = w6 := hw6.symm
            rw [hTw6] at q0 q1 q2
            rw [← hw6] at qb h6 ⊢
            clear hTw6 hw6
            clear h5 qb
            have b0 := h6.cellK (q := bx) (j := 0) (List.mem_cons_self ..) rfl
            have b1 := h6.cellK (q := bx) (j := 1) (List.mem_cons_self ..) rfl
            have b2 := h6.cellK (q := bx) (j := 2) (List.mem_cons_self ..) rfl
            have a0 := h6.cellK (q := h) (j := 0) (List.mem_cons_of_mem _ (List.mem_cons_of_mem _ (List.mem_cons_self ..))) rfl
            have a1 := h6.cellK (q := h) (j := 1) (List.mem_cons_of_mem _ (List.mem_cons_of_mem _ (List.mem_cons_self ..))) rfl
            have a2 := h6.cellK (q := h) (j := 2) (List.mem_cons_of_mem _ (List.mem_cons_of_mem _ (List.mem_cons_self ..))) rfl
            have c5 := sameRoot_any (n1 : Int) ahead.b (n1 : Int) ahead.b RA HA ahead.x.length rc ahead.x.length hc ahead.x ahead.x w6 (h6.sl (List.mem_cons_of_mem _ (List.mem_cons_self ..))) (h6.sl (List.mem_cons_of_mem _ (List.mem_cons_of_mem _ (List.mem_cons_of_mem _ (List.mem_cons_self ..)))))
            have htt : (decide ((n1 : Int) = (n1 : Int)) && (decide (ahead.b = ahead.b) && (ahead.x == ahead.x))) = true := by simp
            rw [htt] at c5
            have hsS := h6.sl (List.mem_cons_self ..)
            have hbl := Lib.hid h6.bel
            have hw00 : IntKind.i64.wrap (0 + 0) = 0 := by rfl
            clear htt h6
            go_wp2_with fail
            refine c5.mono ?_; rintro e w7 ⟨rfl, b7⟩
            have p0 := cellB b7 q0
            have p1 := cellB b7 q1
            have p2 := cellB b7 q2
            have c6 := sameRoot_any 0 0 0 0 SA none 0 sc 0 0 [] [] w7 (hsS.below b7) (Sl.nil _ _)
            have HBL := Lib.hid (hbl.out.trans (b7.mono hbl.out.size))
            clear c5 b0 b1 b2 a0 a1 a2 b7 q0 q1 q2 hsS
            go_wp2_with fail
            refine c6.mono ?_; rintro e w8 ⟨rfl, b8⟩
            have HBL8 := Lib.hid (HBL.out.trans (b8.mono HBL.out.size))
            clear c6 p0 p1 p2 b8
            go_wp2_with fail
            refine (awake6_any w8).mono ?_; rintro e wz ⟨rfl, bz⟩
            go_wp2_with fail
            go_ret
            exact ⟨rfl, HB0.out.trans ((HBL8.out.trans (bz.mono HBL8.out.size)).mono HB0.out.size)⟩
    · obtain rfl : i = m := by omega
      have hlen := HI.out.len
      by_cases gn : (n : Int) < 2
      · have hbl := Lib.hid HI.out.bel
        go_wp2_with fail
        refine (awake6_any wr).mono ?_; rintro e wz ⟨rfl, bz⟩
        go_wp2_with fail
        go_ret
        exact ⟨rfl, HB0.out.trans ((hbl.out.trans (bz.mono hbl.out.size)).mono HB0.out.size)⟩
      · obtain ⟨NA, nc, HA, hc, Kw, hWq, hM, hr1, hr2, hap1, hap2⟩ := HI.out.dsk
        obtain ⟨n1, hn1⟩ : ∃ n1, n1 = n - 1 := ⟨_, rfl⟩
        obtain ⟨n2, hn2⟩ : ∃ n2, n2 = n - 2 := ⟨_, rfl⟩
        have e1 := hr1 (by omega)
        have e2 := hr2 (by omega)
        rw [← hn1] at e1
        rw [← hn2] at e2
        have sR := HI.out.app.sl
        obtain ⟨ad, hWA⟩ := slR_addr sR e1
        subst hWA
        obtain ⟨y0, y1, y2⟩ := slR_three sR e1
        obtain ⟨z0, z1, z2⟩ := slR_three sR e2
        have hns : now.s = (n : Int) := HI.out.st.1
        have has : ahead.s = (n1 : Int) := by have := (HI.out.st.ahead (by omega) none).2.2; omega
        simp only [rowRt, hns, has] at y0 y1 y2 z0 z1 z2
        have hw1 : IntKind.i64.wrap ((n : Int) - 1) = (n1 : Int) := by rw [IntKind.wrap_i64]; omega
        have hw2 : IntKind.i64.wrap ((n : Int) - 2) = (n2 : Int) := by rw [IntKind.wrap_i64]; omega
        have hin1 : (0 : Int) ≤ (n1 : Int) ∧ (n1 : Int) < (n : Int) := by omega
        have hin2 : (0 : Int) ≤ (n2 : Int) ∧ (n2 : Int) < (n : Int) := by omega
        have hne : ad.block < wr.heap.size := by
          have h8 := World.block_lt_of_cell? _ _ y0
          rwa [add_block] at h8
        have hne1 : ¬ ad.block = wr.heap.size := by omega
        have hne2 : ¬ ad.block = wr.heap.size + 1 := by omega
        have hM0 := hM.subK (K' := [(db, Obj.cells #[.pointer (some ⟨p, 0, none⟩)] 34), (gb, Obj.cells #[.bool gone] 4), (nb, Obj.cells #[.int .u8 (nz : Int)] 5)]) (fun κ hk => List.mem_append_right _ hk)
        have h12 := (hM0.alloc (rtO (n : Int) now.b NA now.x.length nc)).alloc (rtO (n1 : Int) ahead.b HA ahead.x.length hc)
        have h21 := (hM0.alloc (rtO (n1 : Int) ahead.b HA ahead.x.length hc)).alloc (rtO (n : Int) now.b NA now.x.length nc)
        rw [show (wr.alloc (rtO (n : Int) now.b NA now.x.length nc)).heap.size = wr.heap.size + 1 by simp] at h12
        rw [show (wr.alloc (rtO (n1 : Int) ahead.b HA ahead.x.length hc)).heap.size = wr.heap.size + 1 by simp] at h21
        have H12 := Lib.hid ((h12.below (Below.refl _ _).drew).subK (K' := (wr.heap.size, (rtO (n : Int) now.b NA now.x.length nc)) :: (wr.heap.size + 1, (rtO (n1 : Int) ahead.b HA ahead.x.length hc)) :: [(db, Obj.cells #[.pointer (some ⟨p, 0, none⟩)] 34), (gb, Obj.cells #[.bool gone] 4), (nb, Obj.cells #[.int .u8 (nz : Int)] 5)]) (fun κ hk => by simp only [List.mem_cons, List.not_mem_nil, or_false] at hk ⊢; rcases hk with h | h | h | h | h <;> simp [h]))
        have H21 := Lib.hid (h21.below (Below.refl _ _).drew)
        have HST := Lib.hid HI.out.st
        have HSH := Lib.hid HI.out.short
        have HN1 := Lib.hid (show n = n1 + 1 by omega)
        have HNL := Lib.hid (show 2 ≤ n ∧ n ≤ 10 by omega)
        clear h12 h21 hn1 hn2 e1 e2 hr1 hr2 hap1 hap2 hWq sR hM hM0 hns has hne hlen
        go_upto_region 14 with fail
        go_cut [17, 18] from 70 to 81 (fun s17 s18 wx => ∃ (g h : Nat), s17 = .pointer (some ⟨g, 0, none⟩) ∧ s18 = .pointer (some ⟨h, 0, none⟩) ∧ Hid (DskM W wx p ⟨1048576, -1, false, mkS none b c⟩ [⟨NA, now.x.length, nc, now.x⟩, ⟨HA, ahead.x.length, hc, ahead.x⟩] ((g, (rtO (n : Int) now.b NA now.x.length nc)) :: (h, (rtO (n1 : Int) ahead.b HA ahead.x.length hc)) :: [(db, Obj.cells #[.pointer (some ⟨p, 0, none⟩)] 34), (gb, Obj.cells #[.bool gone] 4), (nb, Obj.cells #[.int .u8 (nz : Int)] 5)])))
        case first =>
          have hq0 := below_alloc1 wr (Obj.cells #[Value.int .i64 0, .int .i64 0, .slice none 0 0] 24)
          have y0q0 := cellB hq0 y0
          have y1q0 := cellB hq0 y1
          have y2q0 := cellB hq0 y2
          have z0q0 := cellB hq0 z0
          have z1q0 := cellB hq0 z1
          have z2q0 := cellB hq0 z2
          clear hq0
          have hq1 := (below_alloc1 wr (Obj.cells #[Value.int .i64 0, .int .i64 0, .slice none 0 0] 24)).trans ((below_alloc1 (wr.alloc (Obj.cells #[Value.int .i64 0, .int .i64 0, .slice none 0 0] 24)) (Obj.cells #[Value.int .i64 0, .int .i64 0, .slice none 0 0] 24)).mono (below_alloc1 wr (Obj.cells #[Value.int .i64 0, .int .i64 0, .slice none 0 0] 24)).size)
          have y0q1 := cellB hq1 y0
          have y1q1 := cellB hq1 y1
          have y2q1 := cellB hq1 y2
          have z0q1 := cellB hq1 z0
          have z1q1 := cellB hq1 z1
          have z2q1 := cellB hq1 z2
          clear hq1
          have hq2 := (below_alloc1 wr (Obj.cells #[Value.int .i64 (n : Int), .int .i64 now.b, .slice NA now.x.length nc] 24)).trans ((below_alloc1 (wr.alloc (Obj.cells #[Value.int .i64 (n : Int), .int .i64 now.b, .slice NA now.x.length nc] 24)) (Obj.cells #[Value.int .i64 0, .int .i64 0, .slice none 0 0] 24)).mono (below_alloc1 wr (Obj.cells #[Value.int .i64 (n : Int), .int .i64 now.b, .slice NA now.x.length nc] 24)).size)
          have z0q2 := cellB hq2 z0
          have z1q2 := cellB hq2 z1
          have z2q2 := cellB hq2 z2
          clear hq2
          have hq3 := (below_alloc1 wr (Obj.cells #[Value.int .i64 0, .int .i64 0, .slice none 0 0] 24)).trans ((below_alloc1 (wr.alloc (Obj.cells #[Value.int .i64 0, .int .i64 0, .slice none 0 0] 24)) (Obj.cells #[Value.int .i64 (n : Int), .int .i64 now.b, .slice NA now.x.length nc] 24)).mono (below_alloc1 wr (Obj.cells #[Value.int .i64 0, .int .i64 0, .slice none 0 0] 24)).size)
          have z0q3 := cellB hq3 z0
          have z1q3 := cellB hq3 z1
          have z2q3 := cellB hq3 z2
          clear hq3
          go_region
          all_goals (go_wp2_with fail)
          all_goals go_meet
          all_goals (first
            | exact ⟨wr.heap.size, wr.heap.size + 1, rfl, rfl, H12⟩
            | exact ⟨wr.heap.size + 1, wr.heap.size, rfl, rfl, H21⟩)
        case rest =>
          obtain ⟨g, h, rfl, rfl, HD⟩ := hcut
          clear y0 y1 y2 z0 z1 z2 hw1 hw2 hin1 hin2 hne1 hne2 H12 H21 g1 gn
          have hlb := HST.out.len HSH.out.1 HSH.out.2 (by decide)
          have hnow := HST.out.now (by have := HNL.out; omega)
          have x0 := HD.out.cellK (q := g) (j := 0) (List.mem_cons_self ..) rfl
          have c1 := spoil_any HD.out (gb := gb) (db := db) (nb := nb) (gone := gone) (nz := nz) (by simp) (by simp) (by simp) hnz n (by have := HNL.out; omega) now hnow.2 hnow.1 (by omega) one
          clear hlb hnow
          go_wp2_with fail
          refine c1.mono ?_; rintro e w1 ⟨rfl, o, hbad, hol, h1⟩
          have hro : rootS (putB n o b) (putC n o c) = ⟨(n1 : Int), ahead.b, ahead.x⟩ := by
            have h8 := HST.out.spoilt HNL.out.1 hbad
            have h9 := (HST.out.ahead HNL.out.1 none).2.2
            rw [h8]
            have h10 := HN1.out
            cases ahead
            simp only at h9
            subst h9
            congr 1
            omega
          have hrd : readRD ⟨1048576, -1, false, mkS none (putB n o b) (putC n o c)⟩ = (⟨(n1 : Int), ahead.b, ahead.x⟩, true, 0) := by
            rw [readRD_S, hro]
            have h10 := HN1.out
            have h11 := HNL.out
            simp only [Prod.mk.injEq, true_and, and_true]
            exact decide_eq_true (by omega)
          have HBAD := Lib.hid (And.intro hbad hol)
          have c2 := rread_m h1 hrd
          have xd := h1.cellK (q := db) (j := 0) (List.mem_cons_of_mem _ (List.mem_cons_of_mem _ (List.mem_cons_self ..))) rfl
          clear c1 x0 hro hrd hbad hol
          go_wp2_with fail
          refine c2.mono ?_; rintro e w2 ⟨RA, rc, rfl, h2⟩
          have h3 := h2.alloc (.cells #[.int .i64 (n1 : Int), .int .i64 ahead.b, .slice RA ahead.x.length rc] 24)
          clear c2 xd h1
          go_upto_region 18 with fail
          obtain ⟨w3, hw3⟩ : ∃ w3, w3 = w2.alloc (.cells #[.int .i64 (n1 : Int), .int .i64 ahead.b, .slice RA ahead.x.length rc] 24) := ⟨_, rfl⟩
          obtain ⟨bx, hbx⟩ : ∃ bx, bx = w2.heap.size := ⟨_, rfl⟩
          rw [← hw3, ← hbx] at h3 ⊢
          clear hw3 hbx h2
          have x1 := h3.cellK (q := h) (j := 0) (List.mem_cons_of_mem _ (List.mem_cons_of_mem _ (List.mem_cons_self ..))) rfl
          have hah := HST.out.ahead HNL.out.1 o
          rw [show n - 1 = n1 by have := HN1.out; omega] at hah
          have hlb := HST.out.len HSH.out.1 HSH.out.2 (by decide)
          have hlp := slen_put n o b c
          have c3 := spoil_any h3 (gb := gb) (db := db) (nb := nb) (gone := gone) (nz := nz) (by simp) (by simp) (by simp) hnz n1 (by have := HNL.out; have := HN1.out; omega) ahead hah.2.1 hah.1 (by have := HBAD.out.2; omega) two
          clear hah hlb hlp h3
          go_wp2_with fail
          refine c3.mono ?_; rintro e w4 ⟨rfl, o2, hbad2, hol2, h4⟩
          have hrd2 : readRD ⟨1048576, -1, false, mkS none (putB n1 o2 (putB n o b)) (putC n1 o2 (putC n o c))⟩ = (rt0, false, 0) := by
            have h8 := St.spoilt2 (b := b) (c := c) HNL.out.1 HBAD.out.1 hbad2
            rw [show n - 1 = n1 by have := HN1.out; omega] at h8
            rw [readRD_S, h8]
            rfl
          have c4 := rread_m h4 hrd2
          have xd := h4.cellK (q := db) (j := 0) (List.mem_cons_of_mem _ (List.mem_cons_of_mem _ (List.mem_cons_of_mem _ (List.mem_cons_self ..)))) rfl
          clear c3 x1 hrd2 hbad2 hol2
          go_wp2_with fail
          refine c4.mono ?_; rintro e w5 ⟨SA, sc, rfl, h5⟩
          simp only [rt0] at h5 ⊢
          clear c4 xd h4
          have q0 := box_cellsR w5 [.int .i64 0, .int .i64 0, .slice SA 0 sc] 24 0 _ rfl
          have q1 := box_cellsR w5 [.int .i64 0, .int .i64 0, .slice SA 0 sc] 24 1 _ rfl
          have q2 := box_cellsR w5 [.int .i64 0, .int .i64 0, .slice SA 0 sc] 24 2 _ rfl
          have qb := below_alloc1 w5 (.cells #[.int .i64 0, .int .i64 0, .slice SA 0 sc] 24)
          have h6 := h5.below qb
          go_upto_region 20 with fail
          obtain ⟨w6, hw6⟩ : ∃ w6, w6 = w5.alloc (.cells #[.int .i64 0, .int .i64 0, .slice SA 0 sc] 24) := ⟨_, rfl⟩
          have hTw6 : (w5.alloc (.cells [Value.int .i64 0, .int .i64 0, .slice SA 0 sc].toArray 24)) = w6 := hw6.symm
          rw [hTw6] at q0 q1 q2
          rw [← hw6] at qb h6 ⊢
          clear hTw6 hw6
          clear h5 qb
          have b0 := h6.cellK (q := bx) (j := 0) (List.mem_cons_self ..) rfl
          have b1 := h6.cellK (q := bx) (j := 1) (List.mem_cons_self ..) rfl
          have b2 := h6.cellK (q := bx) (j := 2) (List.mem_cons_self ..) rfl
          have a0 := h6.cellK (q := h) (j := 0) (List.mem_cons_of_mem _ (List.mem_cons_of_mem _ (List.mem_cons_self ..))) rfl
          have a1 := h6.cellK (q := h) (j := 1) (List.mem_cons_of_mem _ (List.mem_cons_of_mem _ (List.mem_cons_self ..))) rfl
          have a2 := h6.cellK (q := h) (j := 2) (List.mem_cons_of_mem _ (List.mem_cons_of_mem _ (List.mem_cons_self ..))) rfl
          have c5 := sameRoot_any (n1 : Int) ahead.b (n1 : Int) ahead.b RA HA ahead.x.length rc ahead.x.length hc ahead.x ahead.x w6 (h6.sl (List.mem_cons_of_mem _ (List.mem_cons_self ..))) (h6.sl (List.mem_cons_of_mem _ (List.mem_cons_of_mem _ (List.mem_cons_of_mem _ (List.mem_cons_self ..)))))
          have htt : (decide ((n1 : Int) = (n1 : Int)) && (decide (ahead.b = ahead.b) && (ahead.x == ahead.x))) = true := by simp
          rw [htt] at c5
          have hsS := h6.sl (List.mem_cons_self ..)
          have hbl := Lib.hid h6.bel
          have hw00 : IntKind.i64.wrap (0 + 0) = 0 := by rfl
          clear htt h6
          go_wp2_with fail
          refine c5.mono ?_; rintro e w7 ⟨rfl, b7⟩
          have p0 := cellB b7 q0
          have p1 := cellB b7 q1
          have p2 := cellB b7 q2
          have c6 := sameRoot_any 0 0 0 0 SA none 0 sc 0 0 [] [] w7 (hsS.below b7) (Sl.nil _ _)
          have HBL := Lib.hid (hbl.out.trans (b7.mono hbl.out.size))
          clear c5 b0 b1 b2 a0 a1 a2 b7 q0 q1 q2 hsS
          go_wp2_with fail
          refine c6.mono ?_; rintro e w8 ⟨rfl, b8⟩
          have HBL8 := Lib.hid (HBL.out.trans (b8.mono HBL.out.size))
          clear c6 p0 p1 p2 b8
          go_wp2_with fail
          refine (awake6_any w8).mono ?_; rintro e wz ⟨rfl, bz⟩
          go_wp2_with fail
          go_ret
          exact ⟨rfl, HB0.out.trans ((HBL8.out.trans (bz.mono HBL8.out.size)).mono HB0.out.size)⟩
end Go.Proofs.Ytemegkapmgcffaa
