import Derived.Test.YtcidifmikcnkcaaRingF
/- Rings: may, keep: the walks. -/
namespace Go.Proofs.Ytcidifmikcnkcaa
open Go.RowKit Go.Maps Go.WideShapes Go.WideMaps
set_option linter.unusedSimpArgs false
set_option linter.unusedVariables false

section
variable {W : World} {base p mb : Nat} {most : Int} {qs : List (Nm × Qu)} {D : DataW Unit} {lab : Nat → Option Lab} {P : Nm → Prop}
set_option maxHeartbeats 1000000 in
theorem may_any (h : RH W base p mb most qs D lab P) (nm : Nm) (hn : nm.length ≤ maxLen) :
    Calls Try.prog 42 #[.pointer (some ⟨p, 0, none⟩), .string (bstr nm)] W fun e w' => e = .returned (.bool ((lk qs nm).isSome || decide (qs.length < 1000))) ∧ W = w' := by
  obtain ⟨c0, c1⟩ := h.cell
  have hlen := h.map.len Try.underlying58 3
  rw [h.size] at hlen
  cases hl : lk qs nm with
  | some q =>
    obtain ⟨b, hat⟩ := h.ptr nm q hl
    have hlook := h.look_some hn hat
    clear hat h
    go_enter Try.func42, Try.ntmps42
    go_wp2_with fail
    go_ret
    exact ⟨rfl, rfl⟩
  | none =>
    have hlook := h.look_none hn hl
    clear h
    go_enter Try.func42, Try.ntmps42
    go_wp2_with fail
    go_ret
    exact ⟨ret_bool (by simp; omega), rfl⟩

theorem RH.grownM {w' : World} {n' : Nat} {D' : DataW Unit} {qs' : List (Nm × Qu)} {nm : Nm} {b n c f : Nat} {q : Qu} {A : Option Addr} {L : List Int}
    (h : RH W base p mb most qs D lab (· ≠ nm)) (hq : QIs W base b q A n c f L) (hb : lab b = some (.que nm)) (hA : ∀ a, A = some a → lab a.block = some (.row nm))
    (hg : W.grownBy w' (some mb)) (hm : w'.ownsMap Try.prog 9 ptrElem mb n' D') (hsz : Maps.size D' = qs'.length)
    (hk : ∀ x, Maps.has D' (.string x) = (lk qs' x).isSome) (hoth : ∀ x, x ≠ nm → lk qs' x = lk qs x ∧ ∀ z, D'.atKey (.string x) z = D.atKey (.string x) z)
    (hself : ∀ q', lk qs' nm = some q' → q' = q ∧ ∀ z, D'.atKey (.string nm) z = .lit (.int .i64 (b : Int))) (hnd : (qs'.map Prod.fst).Nodup) (hnam : 1 ≤ nm.length ∧ nm.length ≤ 40) :
    RH w' base p mb most qs' D' lab (fun _ => True) := by
  have ne : ∀ k l, lab k = some l → l ≠ .map → k ≠ mb := fun k l h1 h2 e => by rw [e, h.labm] at h1; cases h1; exact h2 rfl
  have keep : ∀ (e : TypeId) (n c : Nat) (A' : Option Addr) (cs : List Value), Own base e 1 W A' n c cs → (∀ a, A' = some a → a.block ≠ mb) → Own base e 1 w' A' n c cs := by
    intro e n c A' cs ho hk
    refine World.ownsRow.kept ho hg ?_
    cases A' with
    | none => exact .inl rfl
    | some a => exact .inr (by simpa [Value.ownBlock] using hk a rfl)
  have keepQ : ∀ b n c f q A L nm', QIs W base b q A n c f L → lab b = some (.que nm') → (∀ a, A = some a → lab a.block = some (.row nm')) → QIs w' base b q A n c f L := by
    intro b n c f q A L nm' h2 h3 h4
    exact ⟨keep _ _ _ _ _ h2.own (fun a ha => by cases ha; exact ne b _ h3 (by simp)), keep _ _ _ _ _ h2.row (fun a ha => ne _ _ (h4 a ha) (by simp)), h2.ne, h2.most, h2.len, h2.from_, h2.ring⟩
  have hm2 := ownsMap_tight hm
  rw [hsz] at hm2
  refine ⟨keep _ _ _ _ _ h.own (fun a ha => by cases ha; exact ne p _ h.labp (by simp)), hm2, h.mbb, h.labp, h.labm, hsz, hk, ?_, ?_, hnd, h.bound, fun j hj => Nat.lt_of_lt_of_le (h.labN j hj) hg.size, ?_⟩
  · intro nm' q' _ hq'
    by_cases he : nm' = nm
    · subst he
      obtain ⟨rfl, h1⟩ := hself q' hq'
      exact ⟨b, A, n, c, f, L, h1, keepQ _ _ _ _ _ _ _ _ hq hb hA, hb, hA⟩
    · obtain ⟨h1, h2⟩ := hoth nm' he
      rw [h1] at hq'
      obtain ⟨b', A', n', c', f', L', k1, k2, k3, k4⟩ := h.each nm' q' he hq'
      exact ⟨b', A', n', c', f', L', fun z => by rw [h2, k1], keepQ _ _ _ _ _ _ _ _ k2 k3 k4, k3, k4⟩
  · intro nm' q' hq'
    by_cases he : nm' = nm
    · subst he; exact hnam
    · exact h.named nm' q' (by rw [← (hoth nm' he).1]; exact hq')
  · intro nm' q' hq'
    by_cases he : nm' = nm
    · subst he
      exact ⟨b, (hself q' hq').2⟩
    · obtain ⟨h1, h2⟩ := hoth nm' he
      rw [h1] at hq'
      obtain ⟨b', k1⟩ := h.ptr nm' q' hq'
      exact ⟨b', fun z => by rw [h2, k1]⟩

theorem str_ne {a b : Nm} (h : a ≠ b) : Lit.string a ≠ Lit.string b := by simpa using h
set_option maxRecDepth 100000 in
set_option maxHeartbeats 4000000 in
theorem keep_any {nm : Nm} {b n c f : Nat} {q : Qu} {A : Option Addr} {L : List Int} (h : RH W base p mb most qs D lab (· ≠ nm)) (hq : QIs W base b q A n c f L) (hb : lab b = some (.que nm)) (hA : ∀ a, A = some a → lab a.block = some (.row nm))
    (hnam : 1 ≤ nm.length ∧ nm.length ≤ 40) (hl : qs.length ≤ 100000) :
    Calls Try.prog 44 #[.pointer (some ⟨p, 0, none⟩), .string (bstr nm), .pointer (some ⟨b, 0, none⟩)] W fun e w' => e = .returned (.tuple #[]) ∧ ∃ D', RH w' base p mb most (keepQ qs most nm q) D' lab (fun _ => True) ∧ Below base W w' ∧ Chg lab lab W w' := by
  obtain ⟨c0, c1⟩ := h.cell
  obtain ⟨d0, d1, d2, d3⟩ := hq.cell
  have hT := h.map.tidy lawR
  have hkey := keyR nm (by unfold maxLen; omega)
  have hbm := h.mbb
  have hltm := h.map.lt
  have hbs : base ≤ W.heap.size := by omega
  have H := Lib.hid h
  have HQ := Lib.hid hq
  clear h hq
  by_cases hdel : q.l = [] ∧ q.most = most
  · have hK : keepQ qs most nm q = delQ qs nm := by unfold keepQ; rw [if_pos hdel]
    obtain ⟨hd1, hd2⟩ := hdel
    have hd3 : (q.l.length : Int) = 0 := by rw [hd1]; rfl
    rw [hd2] at d0
    rw [hd3] at d3
    rw [hK]
    clear hd1 hd2 hd3 hK
    go_enter Try.func44, Try.ntmps44
    go_upto_region 0 with fail
    go_quiet (fail)
    have hb0 := below_drewN (Below.refl W.heap.size W) nq
    have h1 := H.out.below hb0
    have q1 := HQ.out.below hb0
    have hb00 := hb0
    have hb0 := hb0.mono hbs
    obtain ⟨e0, e1⟩ := h1.cell
    generalize W.drewN nq = w1 at *
    go_wp2_with (at_delete; refine wpList_delete_own _ rfl _ _ 58 9 rfl 84 lawR Try.underlying58 _ mb qs.length D rfl h1.map _ _ rfl hkey ?_; intro w2 hm2 hturn)
    refine bodyPost_ret (results_none rfl _ _ _) rfl ?_
    have hg := hturn.grown
    refine ⟨rfl, _, h1.grownM (qs' := delQ qs nm) q1 hb hA hg hm2 ?_ ?_ ?_ ?_ (nodup_del h1.nodup nm) hnam, hb0.grown hg (by have := h1.lt; omega) (fun k hk => by cases hk; exact hbm), (Chg.below hb00).trans (Chg.grown hg (by rw [h1.labm]; rfl))⟩
    · have e1 := size_del (k := .string nm) hT
      have e2 := len_del h1.nodup nm
      rw [h1.keys, h1.size] at e1
      omega
    · intro x
      by_cases hx : x = nm
      · subst hx; rw [has_del_same, lk_del, if_pos rfl]; rfl
      · rw [has_del_other (str_ne hx), h1.keys, lk_del, if_neg hx]
    · intro x hx
      exact ⟨by rw [lk_del, if_neg hx], fun z => by rw [atKey_del_other (str_ne hx)]⟩
    · intro q' hq'
      rw [lk_del, if_pos rfl] at hq'
      cases hq'
  · have hK : keepQ qs most nm q = updQ qs nm q := by unfold keepQ; rw [if_neg hdel]
    rw [hK]
    have fin : ∀ w1 w2, RH w1 base p mb most qs D lab (· ≠ nm) → QIs w1 base b q A n c f L → w2.ownsMap Try.prog 9 ptrElem mb (qs.length + 1) (D.put (.string nm) (.lit (.int .i64 (b : Int)))) → w1.grownBy w2 (some mb) → RH w2 base p mb most (updQ qs nm q) (D.put (.string nm) (.lit (.int .i64 (b : Int)))) lab (fun _ => True) := by
      intro w1 w2 h1 q1 hm2 hg
      refine h1.grownM (qs' := updQ qs nm q) q1 hb hA hg hm2 ?_ ?_ ?_ ?_ (nodup_upd h1.nodup nm q) hnam
      · rw [size_put hT, h1.keys, h1.size, len_upd]
      · intro x
        by_cases hx : x = nm
        · subst hx; rw [has_put_same hT.isMap (by trivial), lk_upd, if_pos rfl]; rfl
        · rw [has_put_other (str_ne hx), h1.keys, lk_upd, if_neg hx]
      · intro x hx
        exact ⟨by rw [lk_upd, if_neg hx], fun z => by rw [atKey_put_other (str_ne hx)]⟩
      · intro q' hq'
        rw [lk_upd, if_pos rfl] at hq'
        cases hq'
        exact ⟨rfl, fun z => by rw [atKey_put_same hT.isMap (by trivial)]⟩
    have Hfin := Lib.hid fin
    clear fin hK
    by_cases h0 : q.l = []
    · have hne : ¬ q.most = most := fun e => hdel ⟨h0, e⟩
      have hd3 : (q.l.length : Int) = 0 := by rw [h0]; rfl
      rw [hd3] at d3
      clear h0 hd3 hdel
      go_enter Try.func44, Try.ntmps44
      go_upto_region 0 with fail
      go_quiet (fail)
      have hb0 := below_drewN (Below.refl W.heap.size W) nq
      have h1 := H.out.below hb0
      have q1 := HQ.out.below hb0
      have hb00 := hb0
      have hb0 := hb0.mono hbs
      obtain ⟨e0, e1⟩ := h1.cell
      generalize W.drewN nq = w1 at *
      go_wp2_with (at_mapUpdate; refine wpList_mapUpdate_own _ rfl _ _ _ 58 rfl 9 84 lawR Try.underlying58 _ mb qs.length _ rfl h1.map (by unfold maxLen; omega) _ _ _ rfl rfl hkey _ [] (ptrElem_mk b) ?_; intro w2 hm2 hg)
      go_end0
      exact ⟨rfl, ⟨_, Hfin.out _ _ h1 q1 hm2 hg⟩, hb0.grown hg (by have := h1.lt; omega) (fun k hk => by cases hk; exact hbm), (Chg.below hb00).trans (Chg.grown hg (by rw [h1.labm]; rfl))⟩
    · have hne : ¬ (q.l.length : Int) = 0 := fun e => h0 (List.eq_nil_of_length_eq_zero (by omega))
      have hdd : decide ((q.l.length : Int) = 0) = false := by simpa using h0
      have hdd2 : ((q.l.length : Int) == 0) = false := by simpa using h0
      clear h0 hdel hne
      obtain ⟨ln, hln⟩ : ∃ ln, ln = (q.l.length : Int) := ⟨_, rfl⟩
      rw [← hln] at hdd hdd2 d3
      clear hln
      go_enter Try.func44, Try.ntmps44
      go_upto_region 0 with fail
      go_quiet (fail)
      have hb0 := below_drewN (Below.refl W.heap.size W) nq
      have h1 := H.out.below hb0
      have q1 := HQ.out.below hb0
      have hb00 := hb0
      have hb0 := hb0.mono hbs
      obtain ⟨e0, e1⟩ := h1.cell
      generalize W.drewN nq = w1 at *
      go_wp2_with (at_mapUpdate; refine wpList_mapUpdate_own _ rfl _ _ _ 58 rfl 9 84 lawR Try.underlying58 _ mb qs.length _ rfl h1.map (by unfold maxLen; omega) _ _ _ rfl rfl hkey _ [] (ptrElem_mk b) ?_; intro w2 hm2 hg)
      go_end0
      exact ⟨rfl, ⟨_, Hfin.out _ _ h1 q1 hm2 hg⟩, hb0.grown hg (by have := h1.lt; omega) (fun k hk => by cases hk; exact hbm), (Chg.below hb00).trans (Chg.grown hg (by rw [h1.labm]; rfl))⟩
end
end Go.Proofs.Ytcidifmikcnkcaa
