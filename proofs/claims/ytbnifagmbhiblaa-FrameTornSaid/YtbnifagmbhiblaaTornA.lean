import Derived.Test.YtbnifagmbhiblaaFramedB
import Derived.Test.YtbnifagmbhiblaaPureTorn
import Derived.Test.YtbnifagmbhiblaaLawSpares
namespace Go.Proofs.Ytbnifagmbhiblaa
open Go.RowKit
set_option linter.unusedSimpArgs false
set_option linter.unusedVariables false

theorem fg_at (G : List Part) (hG : ∀ q ∈ G, 0 < q.l.length ∧ q.l.length ≤ 1048576) (r : List UInt8) (i : Nat) (q : Part) (hq : G[i]? = some q) :
    fg (frames G ++ r) (((frames (G.take i)).length : Nat) : Int) = (q.l, (frames (G.take (i + 1))).length, 0) := by
  have hkl := (List.getElem?_eq_some_iff.1 hq).1
  have hx := (List.getElem?_eq_some_iff.1 hq).2
  have e1 : G = G.take i ++ q :: G.drop (i + 1) := by rw [← hx, List.getElem_cons_drop, List.take_append_drop]
  have e2 : frames G = frames (G.take i) ++ (frm q.l ++ frames (G.drop (i + 1))) := by
    conv => lhs; rw [e1]
    simp [frames]
  have e3 : G.take (i + 1) = G.take i ++ [q] := by rw [List.take_succ_eq_append_getElem hkl, hx]
  have hq2 := hG q (List.mem_of_getElem? hq)
  have h := fg_frm (frames (G.take i)) q.l (frames (G.drop (i + 1)) ++ r) _ rfl hq2.1 hq2.2
  rw [e3, frames_snoc, e2]
  simp only [List.append_assoc, List.length_append] at h ⊢
  exact h
theorem fg_after (G : List Part) (r : List UInt8) (hr : (fg r 0).2.2 ≠ 0) : (fg (frames G ++ r) (((frames G).length : Nat) : Int)).2.2 ≠ 0 := by
  rw [fg_shift _ _ _ rfl]; exact hr

/-- parts that were got: each holds, apart from the list's own row -/
structure Got (w : World) (A2 : Option Addr) (qs : List Part) : Prop where
  each : ∀ q ∈ qs, Sl w 1 q.A q.n q.c (bytesV q.l) ∧ Sep A2 q.A ∧ LtB q.A w
theorem Got.below {w w' : World} {A2 : Option Addr} {qs : List Part} (h : Got w A2 qs) (hb : Below w.heap.size w w') : Got w' A2 qs :=
  ⟨fun q hq => ⟨(h.each q hq).1.below hb, (h.each q hq).2.1, (h.each q hq).2.2.mono hb.size⟩⟩
theorem Got.snoc {base : Nat} {w w' : World} {A2 A2' : Option Addr} {qs : List Part} (h : Got w A2 qs) (q : Part) (hq : Sl w 1 q.A q.n q.c (bytesV q.l)) (hs : Sep A2 q.A) (hl : LtB q.A w)
    (hg : w.grownBy w' (rowOf base A2)) (hf : From w A2 A2') : Got w' A2' (qs ++ [q]) := by
  refine ⟨fun p hp => ?_⟩
  have h2 : Sl w 1 p.A p.n p.c (bytesV p.l) ∧ Sep A2 p.A ∧ LtB p.A w := by
    rcases List.mem_append.1 hp with hp | hp
    · exact h.each p hp
    · simp only [List.mem_singleton] at hp; subst hp; exact ⟨hq, hs, hl⟩
  exact ⟨h2.1.grown hg h2.2.1.row, h2.2.1.from_ hf h2.2.2, h2.2.2.mono hg.size⟩

set_option maxRecDepth 100000 in
set_option maxHeartbeats 2000000 in
/-- the bodies that are got from the first byte on -/
theorem whole_any (A : Option Addr) (n c : Nat) (G : List Part) (r : List UInt8) (w : World) (hs : Sl w 1 A n c (bytesV (frames G ++ r))) (hn : n ≤ 100000) (hG : ∀ q ∈ G, 0 < q.l.length ∧ q.l.length ≤ 1048576) (hr : (fg r 0).2.2 ≠ 0) (hGl : G.length ≤ 20) :
    Calls Try.prog 52 #[.slice A n c] w fun e w' => ∃ A2 n2 c2 qs, e = .returned (.tuple #[.slice A2 n2 c2, .int .i64 (((frames G).length : Nat) : Int)]) ∧
      Ls w' A2 n2 c2 qs ∧ qs.map Part.l = G.map Part.l ∧ Below w.heap.size w w' := by
  have Hr := Lib.hid (fg_after G r hr)
  have Hn := Lib.hid hs.blen
  have HG := Lib.hid (fg_at G hG r)
  have hgr : ∀ i, i < G.length → i < n ∧ (frames (G.take i)).length < (frames (G.take (i + 1))).length ∧ (frames (G.take (i + 1))).length ≤ n := by
    intro i hi
    have hle : ∀ k, k ≤ G.length → k ≤ (frames (G.take k)).length := by
      intro k
      induction k with
      | zero => intro _; omega
      | succ k ih =>
        intro hk
        have e3 : G.take (k + 1) = G.take k ++ [G[k]] := List.take_succ_eq_append_getElem (by omega)
        have := ih (by omega)
        have h4 := frm_len (G[k]).l
        rw [e3, frames_snoc, List.length_append]
        omega
    have h1 := hle (i + 1) (by omega)
    have e1 : frames G = frames (G.take (i + 1)) ++ frames (G.drop (i + 1)) := by
      unfold frames
      rw [← List.flatMap_append, List.take_append_drop]
    have h2 := hs.blen
    rw [e1, List.length_append, List.length_append] at h2
    have e3 : G.take (i + 1) = G.take i ++ [G[i]] := List.take_succ_eq_append_getElem (by omega)
    have h4 := frm_len (G[i]).l
    have h5 : (frames (G.take (i + 1))).length = (frames (G.take i)).length + (frm (G[i]).l).length := by rw [e3, frames_snoc, List.length_append]
    omega
  have hgn : G.length ≤ n := by
    by_cases h0 : G.length = 0
    · omega
    · have := hgr (G.length - 1) (by omega); omega
  have Hgr := Lib.hid hgr
  have HG2 := Lib.hid hG
  clear hr hG hgr
  go_enter Try.func52, Try.ntmps52
  go_upto_block 0 with fail
  go_cut [4, 5] (fun s4 s5 wx => ∃ A2 n2 c2 qs, s4 = .slice A2 n2 c2 ∧ s5 = .int .i64 (((frames G).length : Nat) : Int) ∧
      Ls wx A2 n2 c2 qs ∧ Hid (qs.map Part.l = G.map Part.l) ∧ Below w.heap.size w wx)
  case first =>
    go_wp2_with fail
    go_loopw [4, 5, 6] (fun s4 s5 iv wx => ∃ (i pl : Nat) (A2 : Option Addr) (n2 c2 : Nat) (qs : List Part), i ≤ G.length ∧ n2 ≤ 20 ∧ iv = .int .i64 (i : Nat) ∧ s4 = .slice A2 n2 c2 ∧ s5 = .int .i64 (pl : Int) ∧
      Hid (pl = (frames (G.take i)).length) ∧ App w.heap.size 26 1 wx A2 n2 c2 (qs.map Part.v) ∧ Hid (qs.map Part.l = (G.take i).map Part.l) ∧ Got wx A2 qs ∧ LtB A2 wx ∧ Below w.heap.size w wx) (fun _ _ iv _ => 20 - (intOf iv).toNat)
    case atStart => exact ⟨0, 0, none, 0, 0, [], by omega, by omega, rfl, rfl, rfl, Lib.hid (by simp [frames]), App.nil _ _ _ _, Lib.hid (by simp), ⟨fun q hq => by cases hq⟩, LtB.none _, Below.refl _ _⟩
    case round =>
      obtain ⟨i, pl, A2, n2, c2, qs, hi, hn2, rfl, rfl, rfl, Hpl, happ, Hqs, hgot, hlt, hbx⟩ := hrel
      have sx := hs.below hbx
      by_cases hig : i < G.length
      · obtain ⟨q, hq⟩ := get_some G i hig
        have hfg := HG.out i q hq
        rw [← Hpl.out] at hfg
        obtain ⟨g1, g2, g3⟩ := Hgr.out i hig
        rw [← Hpl.out] at g2
        have Hfg := Lib.hid hfg
        have hqpos : 0 < q.l.length := (HG2.out q (List.mem_of_getElem? hq)).1
        have Hq := Lib.hid hq
        obtain ⟨nx, hnx⟩ : ∃ nx, nx = (frames (G.take (i + 1))).length := ⟨_, rfl⟩
        rw [← hnx] at g2 g3 hfg
        have Hfg := Lib.hid hfg
        have Hnx := Lib.hid hnx
        clear hfg hnx hq hs
        go_wp2_with fail
        refine (get_any _ _ _ (frames G ++ r) _ _ sx (by omega)).mono ?_; rintro e w7 ⟨v, rfl, hown7, hb7⟩
        rw [Hfg.out] at hown7 ⊢
        dsimp only at hown7 ⊢
        obtain ⟨A7, c7, rfl, hs7, hown8⟩ := own_form hown7
        obtain ⟨g7, hA7, hge7, hlt7⟩ := own_some hown8 hqpos
        have happ7 := happ.below hb7
        have hgot7 := hgot.below hb7
        have hbx7 := hbx.trans (hb7.mono hbx.size)
        have hsep7 : Sep A2 A7 := by
          intro a b ha hb e
          have := hlt a ha
          rw [hA7] at hb
          cases hb
          simp only at e
          omega
        have hl7 : LtB A7 w7 := by intro a ha; rw [hA7] at ha; cases ha; exact hlt7
        have hlt2 := hlt.mono hb7.size
        clear hown7 hown8 hA7 hge7 hlt7 happ hgot hb7 hlt sx
        go_wp2_with (at_builtin; refine wpList_app _ rfl (.tmp 36) (.tmp 38) 63 rfl w.heap.size 26 (.slice none 0 0) 1 24 Try.underlying63 infoSlice rfl (by decide) A2 n2 c2 _ rfl (happ7.alloc _) (some ⟨w7.heap.size, 0, none⟩) 1 1 [.slice A7 q.l.length c7] rfl (sl_one _ _ _) (by intro x hx; simp at hx; subst hx; rfl) (by unfold maxLen; omega) (by omega) (by simp; have := hbx7.size; omega) ?_; intro A2' d2 w2 hat2)
        have hbz := (hbx7.alloc hbx7.size (.cells #[.slice A7 q.l.length c7] 26)).trans (hat2.below (by simp; have := hbx7.size; omega))
        have hbal : Below w7.heap.size w7 (w7.alloc (.cells #[.slice A7 q.l.length c7] 26)) := below_alloc1 _ _
        have hgot2 := (hgot7.below hbal).snoc (Part.mk A7 q.l.length c7 q.l) (hs7.below hbal) hsep7 (hl7.mono hbal.size) hat2.grown hat2.lies
        have happ2 := hat2.app
        have hlt3 := ltB_app happ2 (by omega)
        have hqsl : (qs ++ [(Part.mk A7 q.l.length c7 q.l)]).map Part.l = (G.take (i + 1)).map Part.l := by
          have hkl := (List.getElem?_eq_some_iff.1 Hq.out).1
          have hx := (List.getElem?_eq_some_iff.1 Hq.out).2
          rw [List.take_succ_eq_append_getElem hkl, hx, List.map_append, List.map_append, Hqs.out]
          rfl
        have hnl : n2 + 1 ≤ 20 := by
          have h8 := happ2.sl.len
          have h9 := congrArg List.length hqsl
          simp only [List.length_map, List.length_append, List.length_cons, List.length_nil, List.length_take, Nat.mul_one] at h8 h9
          have h10 := happ7.sl.len
          simp only [List.length_map] at h10
          omega
        go_roundw
        case rel =>
          refine ⟨i + 1, nx, A2', n2 + 1, d2, qs ++ [(Part.mk A7 q.l.length c7 q.l)], by omega, hnl, by go_num, rfl, rfl, Hnx, ?_, Lib.hid hqsl, hgot2, hlt3, hbz⟩
          rw [List.map_append]; exact happ2
        case measure => simp [intOf]; omega
      · obtain rfl : i = G.length := by omega
        have hpl := Hpl.out
        rw [List.take_length] at hpl
        have hqs := Hqs.out
        rw [List.take_length] at hqs
        obtain ⟨⟨x, nx, er⟩, hg⟩ : ∃ g, fg (frames G ++ r) (pl : Int) = g := ⟨_, rfl⟩
        have he : er ≠ 0 := by have := Hr.out; rw [← hpl, hg] at this; exact this
        have heb : ((er : Int) != 0) = true := by simp; omega
        have heb2 : ((er : Int) == 0) = false := by simp; omega
        have Hg := Lib.hid hg
        have Hqs2 := Lib.hid hqs
        have Hpl2 := Lib.hid hpl
        clear hg hqs hpl hs
        go_wp2_with fail
        refine (get_any _ _ _ (frames G ++ r) _ _ sx (by omega)).mono ?_; rintro e w7 ⟨v, rfl, _, hb7⟩
        rw [Hg.out]
        dsimp only
        have happ7 := happ.below hb7
        have hgot7 := hgot.below hb7
        have hbx7 := hbx.trans (hb7.mono hbx.size)
        clear happ hgot hb7 hlt sx hbx
        go_wp2_with fail
        go_meet
        exact ⟨A2, n2, c2, qs, rfl, by rw [Hpl2.out], ⟨happ7.sl, fun q hq => (hgot7.each q hq).1⟩, Hqs2, hbx7⟩
  case rest =>
    obtain ⟨A2, n2, c2, qs, rfl, rfl, hls, Hqs, hbx⟩ := hcut
    go_wp2_with fail
    go_ret2
    exact ⟨A2, n2, c2, qs, rfl, hls, Hqs.out, hbx⟩
end Go.Proofs.Ytbnifagmbhiblaa
