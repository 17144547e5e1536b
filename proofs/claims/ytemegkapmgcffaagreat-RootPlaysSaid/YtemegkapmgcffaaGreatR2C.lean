import Derived.Test.YtemegkapmgcffaaGreatR2B
/- The document's disk, by value: put (printed by wip/gen/gr2c.py). -/
namespace Go.Proofs.YtemegkapmgcffaaGreat
open Go.RowKit
set_option linter.unusedSimpArgs false
set_option linter.unusedVariables false

def lowE (fn other : Nm) (e : FE) : Bool := !(e.f.nm == fn) && (!(e.f.nm == other) && Op.bytesLess e.f.nm fn)
def highE (fn other : Nm) (e : FE) : Bool := !(e.f.nm == fn) && (!(e.f.nm == other) && !Op.bytesLess e.f.nm fn)
def putE (es : List FE) (g : FE) (other : Nm) : List FE := es.filter (lowE g.f.nm other) ++ g :: es.filter (highE g.f.nm other)
theorem filt_take {p : FE → Bool} {es : List FE} {k : Nat} {e : FE} (h : es[k]? = some e) : (es.take (k + 1)).filter p = (es.take k).filter p ++ (if p e = true then [e] else []) := by
  rw [List.take_add_one, h, List.filter_append]
  simp only [Option.toList, List.filter_cons, List.filter_nil]
theorem flat_app (xs : List FE) (e : FE) : flatFE xs ++ feC e = flatFE (xs ++ [e]) := by simp [flatFE]
theorem oneF (e : FE) : ∀ u ∈ feC e, u.oneCell' = true := fun u hu => flatFE_one [e] u (by simpa [flatFE] using hu)
section
variable {w : World} {room fuse : Int} {dark : Bool} {A : Option Addr} {n c : Nat} {es : List FE}
set_option maxRecDepth 100000 in
set_option maxHeartbeats 16000000 in
theorem r2put_any {G : Nat → Prop} (hG : ∀ q, w.heap.size ≤ q → G q) (hs : R2 G w A n c es) (hn : n ≤ 1000) (fn other : Nm) (FA : Option Addr) (fb : List UInt8) (fc : Nat) (fz : Nat) (hf : Sl w 1 FA fb.length fc (bytesV fb)) (hfl : bytesV fb ≠ [] → ∀ a, FA = some a → a.block < w.heap.size ∧ G a.block) :
    Calls Tryz.prog 44 #[.agg #[.int .i64 room, .slice A n c, .int .i64 fuse, .bool dark], .agg #[.string (bstr fn), .slice FA fb.length fc, .int .i64 (fz : Int)], .string (bstr other)] w fun x w' => ∃ A' c', x = .returned (.agg #[.int .i64 room, .slice A' (putE es ⟨⟨fn, fb, fz⟩, FA, fc⟩ other).length c', .int .i64 fuse, .bool dark]) ∧ R2 G w' A' (putE es ⟨⟨fn, fb, fz⟩, FA, fc⟩ other).length c' (putE es ⟨⟨fn, fb, fz⟩, FA, fc⟩ other) ∧ Below w.heap.size w w' := by
  obtain ⟨g, hg⟩ : ∃ g : FE, g = ⟨⟨fn, fb, fz⟩, FA, fc⟩ := ⟨_, rfl⟩
  have hgc : feC g = [.string (bstr fn), .slice FA fb.length fc, .int .i64 (fz : Int)] := by rw [hg]; rfl
  have hb1 := below_alloc1 w (.cells #[.int .i64 room, .slice A n c, .int .i64 fuse, .bool dark] 30)
  have d0 := box_cellsR w [.int .i64 room, .slice A n c, .int .i64 fuse, .bool dark] 30 0 _ rfl
  have d1 := box_cellsR w [.int .i64 room, .slice A n c, .int .i64 fuse, .bool dark] 30 1 _ rfl
  have d2 := box_cellsR w [.int .i64 room, .slice A n c, .int .i64 fuse, .bool dark] 30 2 _ rfl
  have d3 := box_cellsR w [.int .i64 room, .slice A n c, .int .i64 fuse, .bool dark] 30 3 _ rfl
  have ob := new_own w [.int .i64 room, .slice A n c, .int .i64 fuse, .bool dark] 30 4 rfl (by unfold maxLen; omega)
  obtain ⟨w1, hw1⟩ : ∃ w1, w1 = w.alloc (.cells #[.int .i64 room, .slice A n c, .int .i64 fuse, .bool dark] 30) := ⟨_, rfl⟩
  have hT1 : (w.alloc (.cells [.int .i64 room, .slice A n c, .int .i64 fuse, .bool dark].toArray 30)) = w1 := hw1.symm
  rw [hT1] at d0 d1 d2 d3 ob
  rw [← hw1] at hb1
  have hz1 : w1.heap.size = w.heap.size + 1 := by rw [hw1]; simp
  have hb2 := below_alloc1 w1 (.cells #[.string (bstr fn), .slice FA fb.length fc, .int .i64 (fz : Int)] 82)
  have e0 := box_cellsR w1 [.string (bstr fn), .slice FA fb.length fc, .int .i64 (fz : Int)] 82 0 _ rfl
  have e1 := box_cellsR w1 [.string (bstr fn), .slice FA fb.length fc, .int .i64 (fz : Int)] 82 1 _ rfl
  have e2 := box_cellsR w1 [.string (bstr fn), .slice FA fb.length fc, .int .i64 (fz : Int)] 82 2 _ rfl
  obtain ⟨w2, hw2⟩ : ∃ w2, w2 = w1.alloc (.cells #[.string (bstr fn), .slice FA fb.length fc, .int .i64 (fz : Int)] 82) := ⟨_, rfl⟩
  have hT2 : (w1.alloc (.cells [.string (bstr fn), .slice FA fb.length fc, .int .i64 (fz : Int)].toArray 82)) = w2 := hw2.symm
  rw [hT2, hz1] at e0 e1 e2
  rw [← hw2] at hb2
  have hz2 : w2.heap.size = w.heap.size + 2 := by rw [hw2]; simp [hz1]
  have hb3 := below_alloc1 w2 (.cells #[.int .i64 0, .slice none 0 0, .int .i64 0, .bool false] 30)
  have orr := new_own w2 [.int .i64 0, .slice none 0 0, .int .i64 0, .bool false] 30 4 rfl (by unfold maxLen; omega)
  obtain ⟨w3, hw3⟩ : ∃ w3, w3 = w2.alloc (.cells #[.int .i64 0, .slice none 0 0, .int .i64 0, .bool false] 30) := ⟨_, rfl⟩
  have hT3 : (w2.alloc (.cells [.int .i64 0, .slice none 0 0, .int .i64 0, .bool false].toArray 30)) = w3 := hw3.symm
  rw [hT3, hz2] at orr
  rw [← hw3] at hb3
  have hz3 : w3.heap.size = w.heap.size + 3 := by rw [hw3]; simp [hz2]
  have eW : ((w.alloc (.cells #[.int .i64 room, .slice A n c, .int .i64 fuse, .bool dark] 30)).alloc (.cells #[.string (bstr fn), .slice FA fb.length fc, .int .i64 (fz : Int)] 82)).alloc (.cells #[.int .i64 0, .slice none 0 0, .int .i64 0, .bool false] 30) = w3 := by rw [hw3, hw2, hw1]
  have hb23 := hb2.trans (hb3.mono hb2.size)
  have D0 := Lib.hid (cellB hb23 d0)
  have D1 := Lib.hid (cellB hb23 d1)
  have D2 := Lib.hid (cellB hb23 d2)
  have D3 := Lib.hid (cellB hb23 d3)
  have E0 := Lib.hid (cellB hb3 e0)
  have E1 := Lib.hid (cellB hb3 e1)
  have E2 := Lib.hid (cellB hb3 e2)
  have OB := Lib.hid (Own.below ob hb23)
  have OR := Lib.hid (Own.lower orr (show w.heap.size ≤ w.heap.size + 2 by omega))
  have hbw := hb1.trans (hb23.mono hb1.size)
  have HB := Lib.hid hbw
  have HS := Lib.hid (hs.below hbw)
  have HS0 := Lib.hid hs
  have HF := Lib.hid (And.intro hf hfl)
  have HG := Lib.hid hG
  have hln := slFE_len hs.sl
  have HZ := Lib.hid hz3
  have Hg := Lib.hid hg
  have Hgc := Lib.hid hgc
  clear hb1 hb2 hb3 hb23 hbw hw1 hw2 hw3 hT1 hT2 hT3 hz1 hz2 hz3 d0 d1 d2 d3 e0 e1 e2 ob orr hs hf hfl hG hg hgc
  go_enter Tryz.func44, Tryz.ntmps44
  go_upto_region 1 with fail
  clear eW
  go_wp2_with fail
  go_loopw [7, 8, 9] (fun s7 s8 s9 wx => ∃ (k : Nat) (LA HA : Option Addr) (lc hc : Nat), k ≤ n ∧ s7 = .slice LA ((es.take k).filter (lowE fn other)).length lc ∧ s8 = .slice HA ((es.take k).filter (highE fn other)).length hc ∧ s9 = .int .i64 (k : Int) ∧ Hid (Rw3 w3.heap.size wx LA ((es.take k).filter (lowE fn other)).length lc ((es.take k).filter (lowE fn other))) ∧ Hid (Rw3 w3.heap.size wx HA ((es.take k).filter (highE fn other)).length hc ((es.take k).filter (highE fn other))) ∧ Hid (Ap2 LA HA) ∧ Hid (Below w3.heap.size w3 wx)) (fun _ _ iv _ => n - (intOf iv).toNat)
  case atStart => exact ⟨0, none, none, 0, 0, by omega, rfl, rfl, rfl, Lib.hid (Rw3.nil _ _), Lib.hid (Rw3.nil _ _), Lib.hid (fun a b ha => by cases ha), Lib.hid (Below.refl _ _)⟩
  case round =>
    obtain ⟨k, LA, HA, lc, hc, hk, rfl, rfl, rfl, RL, RH, AP, HW⟩ := hrel
    have d1 := cellB HW.out D1.out
    have e0 := cellB HW.out E0.out
    by_cases g1 : (k : Int) < (n : Int)
    · obtain ⟨e, he⟩ := get_some es k (by omega)
      have hss := HS.out.sl.below HW.out
      obtain ⟨ad, rfl⟩ := slFE_addr hss he
      obtain ⟨y0, y1, y2⟩ := slFE_three hss he
      have hin : (0 : Int) ≤ (k : Int) ∧ (k : Int) < (n : Int) := by omega
      have hba := below_alloc1 wr (.cells #[.string (bstr e.f.nm), .slice e.A e.f.b.length e.c, .int .i64 e.f.safe] 82)
      have q0 := box_cellsR wr [.string (bstr e.f.nm), .slice e.A e.f.b.length e.c, .int .i64 e.f.safe] 82 0 _ rfl
      have q1 := box_cellsR wr [.string (bstr e.f.nm), .slice e.A e.f.b.length e.c, .int .i64 e.f.safe] 82 1 _ rfl
      have q2 := box_cellsR wr [.string (bstr e.f.nm), .slice e.A e.f.b.length e.c, .int .i64 e.f.safe] 82 2 _ rfl
      have FL := Lib.hid (filt_take (p := lowE fn other) he)
      have FH := Lib.hid (filt_take (p := highE fn other) he)
      have hkl := List.length_filter_le (lowE fn other) (es.take k)
      have hkh := List.length_filter_le (highE fn other) (es.take k)
      rw [List.length_take] at hkl hkh
      have HKL := Lib.hid (And.intro hkl hkh)
      clear hss he hkl hkh
      go_upto_region 6 with fail
      obtain ⟨w4, hw4⟩ : ∃ w4, w4 = wr.alloc (.cells #[.string (bstr e.f.nm), .slice e.A e.f.b.length e.c, .int .i64 e.f.safe] 82) := ⟨_, rfl⟩
      have hT4 : (wr.alloc (.cells [.string (bstr e.f.nm), .slice e.A e.f.b.length e.c, .int .i64 e.f.safe].toArray 82)) = w4 := hw4.symm
      rw [hT4] at q0 q1 q2
      rw [← hw4] at hba ⊢
      have j1 := cellB hba d1
      have j0 := cellB hba e0
      have RL4 := Lib.hid (RL.out.below hba)
      have RH4 := Lib.hid (RH.out.below hba)
      have HW4 := Lib.hid (HW.out.trans (hba.mono HW.out.size))
      clear hw4 hT4 hba d1 e0 y0 y1 y2 RL RH HW
      obtain ⟨lows, hlows⟩ : ∃ lows, lows = (es.take k).filter (lowE fn other) := ⟨_, rfl⟩
      obtain ⟨highs, hhighs⟩ : ∃ highs, highs = (es.take k).filter (highE fn other) := ⟨_, rfl⟩
      rw [← hlows] at RL4 HKL FL
      rw [← hhighs] at RH4 HKL FH
      rw [← hlows, ← hhighs]
      clear hlows hhighs
      by_cases x1 : e.f.nm = fn
      · have HL := Lib.hid (show (es.take (k + 1)).filter (lowE fn other) = lows by rw [FL.out, if_neg (by simp [lowE, x1]), List.append_nil])
        have HH := Lib.hid (show (es.take (k + 1)).filter (highE fn other) = highs by rw [FH.out, if_neg (by simp [highE, x1]), List.append_nil])
        have p1 : (e.f.nm == fn) = true := by simpa using x1
        clear x1
        go_wp2_with fail
        go_roundw
        case rel => exact ⟨k + 1, LA, HA, lc, hc, by omega, by rw [HL.out], by rw [HH.out], by go_num, by rw [HL.out]; exact RL4, by rw [HH.out]; exact RH4, AP, HW4⟩
        case measure => simp [intOf]; omega
      · have p1 : (e.f.nm == fn) = false := by simpa using x1
        by_cases x2 : e.f.nm = other
        · have HL := Lib.hid (show (es.take (k + 1)).filter (lowE fn other) = lows by rw [FL.out, if_neg (by simp [lowE, x2]), List.append_nil])
          have HH := Lib.hid (show (es.take (k + 1)).filter (highE fn other) = highs by rw [FH.out, if_neg (by simp [highE, x2]), List.append_nil])
          have p2 : (e.f.nm == other) = true := by simpa using x2
          clear x1 x2
          go_wp2_with fail
          go_roundw
          case rel => exact ⟨k + 1, LA, HA, lc, hc, by omega, by rw [HL.out], by rw [HH.out], by go_num, by rw [HL.out]; exact RL4, by rw [HH.out]; exact RH4, AP, HW4⟩
          case measure => simp [intOf]; omega
        · have p2 : (e.f.nm == other) = false := by simpa using x2
          have hs4 := HW4.out.size
          have hsl := sl_lit3F w4 (feC e) 82 1 rfl
          have hb5 := below_alloc1 w4 (.cells #[.string (bstr e.f.nm), .slice e.A e.f.b.length e.c, .int .i64 e.f.safe] 82)
          have RL5 := Lib.hid (RL4.out.below hb5)
          have RH5 := Lib.hid (RH4.out.below hb5)
          have HW5 := Lib.hid (HW4.out.trans (hb5.mono HW4.out.size))
          have hs5 := HW5.out.size
          have ha1 := RL5.out.app
          have ha2 := RH5.out.app
          have hk1 := HKL.out.1
          have hk2 := HKL.out.2
          cases x3 : Op.bytesLess e.f.nm fn with
          | true =>
            have HL := Lib.hid (show (es.take (k + 1)).filter (lowE fn other) = lows ++ [e] by rw [FL.out, if_pos (by simp [lowE, x1, x2, x3])])
            have HH := Lib.hid (show (es.take (k + 1)).filter (highE fn other) = highs by rw [FH.out, if_neg (by simp [highE, x3]), List.append_nil])
            clear x1 x2
            go_wp2_with (at_builtin; refine wpList_app _ rfl _ _ 28 rfl w3.heap.size 82 (.agg #[.string ⟨#[]⟩, .slice none 0 0, .int .i64 0]) 3 48 Tryz.underlying28 infoF2 rfl (by decide) LA lows.length lc (flatFE lows) rfl ha1 (some ⟨w4.heap.size, 0, none⟩) 1 1 (feC e) rfl hsl (oneF e) (by unfold maxLen; omega) (by omega) hs5 ?_; intro A6 c6 w6 hat)
            rw [flat_app] at hat
            have hlen : (lows ++ [e]).length = lows.length + 1 := by simp
            have hat2 := RL5.out.other RH5.out AP.out hat
            have G1 := Lib.hid (RL5.out.grow hat (by simp) hs5)
            have HW6 := Lib.hid (HW5.out.trans (RL5.out.grownB hat hs5))
            have G2 := Lib.hid hat2.1
            have AP2 := Lib.hid hat2.2
            clear hat hat2 ha1 ha2 hsl hb5
            go_wp2_with fail
            go_roundw
            case rel => exact ⟨k + 1, A6, HA, c6, hc, by omega, by rw [HL.out, hlen], by rw [HH.out], by go_num, by rw [HL.out, hlen]; exact G1, by rw [HH.out]; exact G2, AP2, HW6⟩
            case measure => simp [intOf]; omega
          | false =>
            have HL := Lib.hid (show (es.take (k + 1)).filter (lowE fn other) = lows by rw [FL.out, if_neg (by simp [lowE, x3]), List.append_nil])
            have HH := Lib.hid (show (es.take (k + 1)).filter (highE fn other) = highs ++ [e] by rw [FH.out, if_pos (by simp [highE, x1, x2, x3])])
            clear x1 x2
            go_wp2_with (at_builtin; refine wpList_app _ rfl _ _ 28 rfl w3.heap.size 82 (.agg #[.string ⟨#[]⟩, .slice none 0 0, .int .i64 0]) 3 48 Tryz.underlying28 infoF2 rfl (by decide) HA highs.length hc (flatFE highs) rfl ha2 (some ⟨w4.heap.size, 0, none⟩) 1 1 (feC e) rfl hsl (oneF e) (by unfold maxLen; omega) (by omega) hs5 ?_; intro A6 c6 w6 hat)
            rw [flat_app] at hat
            have hlen : (highs ++ [e]).length = highs.length + 1 := by simp
            have hat2 := RH5.out.other RL5.out (fun a b ha hb h => AP.out b a hb ha h.symm) hat
            have G1 := Lib.hid (RH5.out.grow hat (by simp) hs5)
            have HW6 := Lib.hid (HW5.out.trans (RH5.out.grownB hat hs5))
            have G2 := Lib.hid hat2.1
            have AP2 := Lib.hid (show Ap2 LA A6 from fun a b ha hb h => hat2.2 b a hb ha h.symm)
            clear hat hat2 ha1 ha2 hsl hb5
            go_wp2_with fail
            go_roundw
            case rel => exact ⟨k + 1, LA, A6, lc, c6, by omega, by rw [HL.out], by rw [HH.out, hlen], by go_num, by rw [HL.out]; exact G2, by rw [HH.out, hlen]; exact G1, AP2, HW6⟩
            case measure => simp [intOf]; omega
    · obtain rfl : k = n := by omega
      have htk : es.take k = es := List.take_of_length_le (by omega)
      rw [htk] at RL RH ⊢
      obtain ⟨lows, hlows⟩ : ∃ lows, lows = es.filter (lowE fn other) := ⟨_, rfl⟩
      obtain ⟨highs, hhighs⟩ : ∃ highs, highs = es.filter (highE fn other) := ⟨_, rfl⟩
      have hkl := List.length_filter_le (lowE fn other) es
      have hkh := List.length_filter_le (highE fn other) es
      have HP := Lib.hid (show putE es g other = lows ++ g :: highs by rw [hlows, hhighs]; unfold putE; rw [Hg.out])
      have HSub := Lib.hid (show ∀ e, e ∈ lows ++ g :: highs → e = g ∨ e ∈ es by
        intro e he
        rw [hlows, hhighs] at he
        simp only [List.mem_append, List.mem_cons, List.mem_filter] at he
        rcases he with h | h | h
        · exact .inr h.1
        · exact .inl h
        · exact .inr h.1)
      rw [← hlows] at RL hkl
      rw [← hhighs] at RH hkh
      rw [← hlows, ← hhighs]
      clear hlows hhighs htk
      have e1 := cellB HW.out E1.out
      have e2 := cellB HW.out E2.out
      have hs4 := HW.out.size
      have hsl := sl_lit3F wr (feC g) 82 1 rfl
      have hb5 := below_alloc1 wr (.cells (feC g).toArray 82)
      have RL5 := Lib.hid (RL.out.below hb5)
      have RH5 := Lib.hid (RH.out.below hb5)
      have HW5 := Lib.hid (HW.out.trans (hb5.mono HW.out.size))
      have hs5 := HW5.out.size
      have ha1 := RL5.out.app
      have hgc := Hgc.out
      have hga : (feC g).toArray = #[.string (bstr fn), .slice FA fb.length fc, .int .i64 (fz : Int)] := by rw [hgc]
      rw [hga] at hsl ha1 hs5
      have RL6 := RL5
      rw [hga] at RL5 RH5 HW5
      clear hga hb5 RL6 hgc
      go_wp2_with (first
        | (at_builtin; refine wpList_app _ rfl _ _ 28 rfl w3.heap.size 82 (.agg #[.string ⟨#[]⟩, .slice none 0 0, .int .i64 0]) 3 48 Tryz.underlying28 infoF2 rfl (by decide) LA lows.length lc (flatFE lows) rfl ha1 (some ⟨wr.heap.size, 0, none⟩) 1 1 (feC g) rfl hsl (oneF g) (by unfold maxLen; omega) (by omega) hs5 ?_; intro A6 c6 w6 hat; rw [flat_app] at hat; have hat2 := RL5.out.other RH5.out AP.out hat; have hlen : (lows ++ [g]).length = lows.length + 1 := by simp
           have G1 := Lib.hid (RL5.out.grow hat (by simp) hs5); have HW6 := Lib.hid (HW5.out.trans (RL5.out.grownB hat hs5)); have G2 := Lib.hid hat2.1; have hb1 := G1.out.app; have hb2 := G2.out.app.sl; have hs6 := HW6.out.size; clear hat hat2 ha1 hsl)
        | (at_builtin; refine wpList_app _ rfl _ _ 28 rfl w3.heap.size 82 (.agg #[.string ⟨#[]⟩, .slice none 0 0, .int .i64 0]) 3 48 Tryz.underlying28 infoF2 rfl (by decide) A6 (lows.length + 1) c6 (flatFE (lows ++ [g])) rfl hb1 HA highs.length hc (flatFE highs) rfl hb2 (flatFE_one highs) (by unfold maxLen; omega) (by omega) hs6 ?_; intro A7 c7 w7 hat
           have hfe : flatFE (lows ++ [g]) ++ flatFE highs = flatFE (lows ++ g :: highs) := by simp [flatFE]
           have hle : lows.length + 1 + highs.length = (lows ++ g :: highs).length := by simp; omega
           rw [hfe, hle] at hat
           have G7 := Lib.hid (G1.out.grow hat (by simp) hs6)
           have HW7 := Lib.hid (HW6.out.trans (G1.out.grownB hat hs6))
           have OB7 := Lib.hid (Own.below OB.out HW7.out)
           have OR7 := Lib.hid (Own.below OR.out HW7.out)
           clear hat hb1 hb2 hfe
           have b1 := World.ownsRow.stored OB7.out 1 (.slice A7 (lows ++ g :: highs).length c7)
           have hor := OR7.out.apart b1.2 (by omega)
           have HGr := Lib.hid b1.2
           have OR8 := Lib.hid hor
           have z0 := World.ownsRow.cellAt OB7.out 0 (by omega)
           have z1 := World.ownsRow.cellAt OB7.out 1 (by omega)
           have z2 := World.ownsRow.cellAt OB7.out 2 (by omega)
           have z3 := World.ownsRow.cellAt OB7.out 3 (by omega)
           have g1x := World.ownsRow.frozenAt OB7.out 1
           have f0 := World.ownsRow.frozenAt OR7.out 0
           have f1 := World.ownsRow.frozenAt OR7.out 1
           have f2 := World.ownsRow.frozenAt OR7.out 2
           have f3 := World.ownsRow.frozenAt OR7.out 3
           have m0 := World.ownsRow.cellAt OR7.out 0 (by omega)
           have m1 := World.ownsRow.cellAt OR7.out 1 (by omega)
           have m2 := World.ownsRow.cellAt OR7.out 2 (by omega)
           have m3 := World.ownsRow.cellAt OR7.out 3 (by omega)
           simp only [List.getElem?_cons_zero, List.getElem?_cons_succ] at m0 m1 m2 m3 z0 z1 z2 z3
           have Hst := Lib.hid (stored4R OR8.out (.int .i64 room) (.slice A7 (lows ++ g :: highs).length c7) (.int .i64 fuse) (.bool dark))
           obtain ⟨N7, hN7⟩ : ∃ N7, N7 = (lows ++ g :: highs).length := ⟨_, rfl⟩
           rw [hle]
           rw [← hN7] at Hst HGr OR8 G7 ⊢
           have HN7 := Lib.hid hN7
           clear b1 hor hle hN7))
      refine bodyPost_ret (results_cellD rfl _ _ _ ⟨w.heap.size + 2, 0, none⟩ rfl _ (load_own2D Hst.out.1)) rfl ?_
      have hfin : Below w.heap.size w _ := wrote2 (wrote2 (HB.out.trans (HW7.out.mono HB.out.size)) HGr.out (Nat.le_refl _)) Hst.out.2 (by omega)
      have hks : ∀ a, A7 = some a → ∀ q, q < w3.heap.size → a.block ≠ q := fun a ha q hq => by have := (G7.out.lies a ha).1; omega
      have hz := HZ.out
      rw [← Hg.out, HP.out, ← HN7.out]
      refine ⟨A7, c7, rfl, ⟨sl_same G7.out.app.sl (fun a ha => (Hst.out.2.block _ (Nat.lt_of_lt_of_le (G7.out.lies a ha).2 HGr.out.size) (fun e => hks a ha (w.heap.size + 2) (by omega) (Option.some.inj e))).trans (HGr.out.block _ (G7.out.lies a ha).2 (fun e => hks a ha w.heap.size (by omega) (Option.some.inj e)))), fun _ a ha => ⟨Nat.lt_of_lt_of_le (G7.out.lies a ha).2 (Nat.le_trans HGr.out.size Hst.out.2.size), HG.out _ (by have := (G7.out.lies a ha).1; omega)⟩, fun e he => ?_⟩, hfin⟩
      rcases HSub.out e he with rfl | h5
      · rw [Hg.out]
        exact ⟨HF.out.1.below hfin, fun hne a ha => ⟨Nat.lt_of_lt_of_le (HF.out.2 hne a ha).1 hfin.size, (HF.out.2 hne a ha).2⟩⟩
      · exact (HS0.out.below hfin).ok e h5
end
end Go.Proofs.YtemegkapmgcffaaGreat
