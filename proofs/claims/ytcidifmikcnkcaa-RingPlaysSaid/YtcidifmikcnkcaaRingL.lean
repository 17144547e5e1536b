import Derived.Test.YtcidifmikcnkcaaRingK
import Derived.Test.YtcidifmikcnkcaaSame
import Derived.Maps.RangeWalk
import Derived.Sort.OwnSorted
import Derived.Sort.KeysCollected
/- Rings: Names. -/
namespace Go.Proofs.Ytcidifmikcnkcaa
open Go.RowKit Go.Maps Go.WideShapes Go.WideMaps Go.Sort
set_option linter.unusedSimpArgs false
set_option linter.unusedVariables false

theorem key_inv {key : Value} {kl : Lit} (h : keyOf Try.prog 9 key = some kl) : ∃ x : Nm, key = .string (bstr x) ∧ kl = .string x := by
  cases key <;> simp [keyOf, Try.underlying9, mapKey] at h
  rename_i s
  exact ⟨s.data.toList, by rw [← bstr_of], by first | exact h.2.symm | exact h.symm | (obtain ⟨_, rfl⟩ := h; rfl)⟩
def mkV (c : Option Nat) : Value := .pointer (c.map fun b => ⟨b, 0, none⟩)
theorem ptr_inv {v : Value} {y : DataW Unit × List MemPlace} (h : ptrElem v = some y) : ∃ c, v = mkV c := by
  unfold ptrElem at h
  split at h
  · exact ⟨none, rfl⟩
  · rename_i b; exact ⟨some b, rfl⟩
  · cases h
def heldN (qs : List (Nm × Qu)) : List Nm := (qs.filter fun e => !e.2.l.isEmpty).map Prod.fst
theorem held_mem {qs : List (Nm × Qu)} (hn : (qs.map Prod.fst).Nodup) {x : Nm} : x ∈ heldN qs ↔ ∃ q, lk qs x = some q ∧ q.l ≠ [] := by
  unfold heldN
  rw [List.mem_map]
  constructor
  · rintro ⟨e, he, rfl⟩
    rw [List.mem_filter] at he
    refine ⟨e.2, ?_, by simpa using he.2⟩
    obtain ⟨h1, h2⟩ := he
    clear h2
    induction qs with
    | nil => cases h1
    | cons a r ih =>
      rw [List.map_cons, List.nodup_cons] at hn
      rw [lk_cons]
      rcases List.mem_cons.1 h1 with rfl | h1
      · rw [if_pos rfl]
      · rw [if_neg (fun e' => hn.1 (by rw [e']; exact List.mem_map_of_mem h1))]
        exact ih hn.2 h1
  · rintro ⟨q, h1, h2⟩
    exact ⟨(x, q), List.mem_filter.2 ⟨lk_mem h1, by simpa using h2⟩, rfl⟩
theorem held_nodup {qs : List (Nm × Qu)} (hn : (qs.map Prod.fst).Nodup) : (heldN qs).Nodup := hn.sublist (List.Sublist.map _ List.filter_sublist)
theorem infoStrR : (Try.prog.info? 9).map (fun i => (i.zero, i.size, i.bytes)) = some (some (.string { data := #[] }), 1, 16) := by kernel_rfl
theorem strs_one (l : List Nm) : ∀ u ∈ strsL l, u.oneCell' = true := by
  intro u hu
  simp only [strsL, List.mem_map] at hu
  obtain ⟨x, _, rfl⟩ := hu
  rfl
set_option maxRecDepth 100000 in
set_option maxHeartbeats 8000000 in
theorem Names_any {W : World} {base p : Nat} {most : Int} {qs : List (Nm × Qu)} (h : RIs W base p most qs) (hl : qs.length ≤ 100000) :
    Calls Try.prog 16 #[.pointer (some ⟨p, 0, none⟩)] W fun e w' => ∃ A c, e = .returned (.slice A (heldN qs).length c) ∧ Sl w' 1 A (heldN qs).length c (strsL ((heldN qs).mergeSort leB)) ∧ Below W.heap.size W w' := by
  obtain ⟨mb, D, lab, h⟩ := h
  obtain ⟨i0, hi, hz0, hz1, hz2⟩ := info_parts infoStrR
  obtain ⟨c0, c1⟩ := h.cell
  have hmap := h.map
  have hltm := h.map.lt
  have H := Lib.hid h
  clear h
  go_enter Try.func16, Try.ntmps16
  go_wp2_with (first | (at_range; refine wpList_range_own _ rfl _ 58 rfl 9 84 lawR Try.underlying58 _ mb qs.length D rfl hmap ?_; intro w6 hrg6 hg6 hs6) | go_in)
  go_frame
  go_loopw [3] (fun s3 wr => ∃ (left : Lit → Bool) (cnt : Nat) (A : Option Addr) (c : Nat) (acc : List Nm), s3 = .slice A acc.length c ∧ wr.ranges Try.prog 9 ptrElem mb W.heap.size qs.length D left cnt ∧ Own W.heap.size 9 1 wr A acc.length c (strsL acc) ∧ (A = none → c = 0) ∧ acc.length + cnt ≤ qs.length ∧ Hid acc.Nodup ∧ Hid (∀ x, x ∈ acc ↔ x ∈ heldN qs ∧ left (.string x) = false) ∧ Hid (∀ kl, left kl = true → Maps.has D kl = true) ∧ Hid (∀ a, A = some a → a.block ≠ W.heap.size) ∧ Hid (Below W.heap.size W wr)) (fun _ wr => wr.rangeLeft mb W.heap.size)
  case atStart =>
    refine ⟨_, _, none, 0, [], rfl, hrg6, World.ownsRow_nil _ _ _ _, fun _ => rfl, by rw [H.out.size]; simp, Lib.hid List.nodup_nil, Lib.hid (fun x => ?_), Lib.hid (fun kl h => h), Lib.hid (by simp), Lib.hid ((Below.refl _ _).grown hg6 (Nat.le_refl _) (by simp))⟩
    simp only [List.not_mem_nil, false_iff, not_and]
    intro hx
    obtain ⟨q, h1, _⟩ := (held_mem H.out.nodup).1 hx
    rw [H.out.keys, h1]; simp
  case round =>
    obtain ⟨left, cnt, A, c, acc, rfl, hrg, ho, hc0, hcnt, HN, HA, HL, HNe, HB⟩ := hrel
    rename World => wr
    go_wp2_with (first | (at_next; refine wpList_next_ranges _ rfl _ rfl 9 lawR ptrElem (fun x : Nm => .string (bstr x)) mkV (fun key kl hk => by obtain ⟨x, h1, _⟩ := key_inv hk; exact ⟨x, h1⟩) (fun v y hy => ptr_inv hy) mb W.heap.size qs.length _ _ _ rfl hrg ?_ ?_) | go_in)
    · intro hc hl0
      have hperm : acc.Perm (heldN qs) := (List.perm_ext_iff_of_nodup HN.out (held_nodup H.out.nodup)).2 (fun x => by rw [HA.out x, hl0]; simp)
      have hlen := hperm.length_eq
      have hms := mergeSort_of_perm hperm
      have hal : acc.length ≤ 100000 := by omega
      have Hms := Lib.hid hms
      have Hlen := Lib.hid hlen
      clear hms hrg hl0 hperm hcnt hlen hg6 hrg6 hs6 hmap
      rcases ho.2 with ⟨h0, h00⟩ | ⟨g, cap, cur, h0, hbg, hb, h1, h2, h3, h4⟩
      · have h5 : acc = [] := List.eq_nil_of_length_eq_zero h00
        subst h5
        have hA0 : A = none := by simp at h0; exact h0.1
        subst hA0
        obtain rfl : c = 0 := hc0 rfl
        go_wp2_with fail
        refine (Try.slices_Sort_string_none none 0 _).mono ?_; rintro e w9 ⟨rfl, rfl⟩
        go_wp2_with fail
        go_ret
        have hl5 : (heldN qs).length = 0 := Hlen.out.symm
        have hn5 : heldN qs = [] := List.eq_nil_of_length_eq_zero hl5
        have hms0 : (heldN qs).mergeSort leB = [] := by rw [hn5]; exact List.mergeSort_nil
        rw [hl5, hms0]
        exact ⟨none, 0, rfl, Sl.nil _ _, HB.out⟩
      · simp only [Value.slice.injEq, true_and] at h0
        obtain ⟨rfl, rfl⟩ := h0
        have hH : Holds encStr wr g 0 acc.toArray := holds_of_block hb (by rw [Nat.mul_one] at h4; exact h4)
        have hgl : g < wr.heap.size := (Array.getElem?_eq_some_iff.1 hb).1
        have hsort := Try.slices_Sort_string g 0 c acc wr hH hgl (by omega)
        have Hsort := Lib.hid hsort
        have Hb := Lib.hid hb
        have H4 := Lib.hid h4
        clear hH hsort hb h4
        go_wp2_with fail
        have hb := Hb.out
        have h4 := H4.out
        refine Hsort.out.mono ?_; rintro e w9 ⟨rfl, nn, os, rfl⟩
        have hg := grownBy_sorted (w := wr) (g := g) (n := nn) (os := os) (acc.mergeSort fun x y => decide (x ≤ y)).toArray
        have hl2 : (acc.mergeSort fun x y => decide (x ≤ y)).length = acc.length := List.length_mergeSort acc
        have hro := ownsRow_sorted (n := nn) (os := os) (ts := acc.mergeSort fun x y => decide (x ≤ y)) hl2 hbg hb h1 h2 h3
        have hbe := HB.out.grown hg (HB.out.size) (fun k hk => by cases hk; exact hbg)
        generalize grow (putRow encStr (Sort.ahead wr nn) g 0 (acc.mergeSort fun x y => decide (x ≤ y)).toArray) os = w9 at *
        go_wp2_with fail
        go_ret
        rw [← Hlen.out, ← Hms.out]
        exact ⟨_, c, rfl, ownsRow_sl hro, hbe⟩
    · intro x c2 kl y1 y2 w8 cnt8 hkey hlk hptr hat hrg8 hlt8 hg8 hs8 hen
      obtain ⟨x', he1, he2⟩ := key_inv hkey
      have he3 : x' = x := by
        have := Value.string.inj he1
        exact (bstr_inj.1 this).symm
      subst he3
      subst he2
      have hhas := HL.out _ hlk
      rw [H.out.keys] at hhas
      obtain ⟨q, hq⟩ := Option.isSome_iff_exists.1 hhas
      obtain ⟨b, A1, n1, c1', f1, L1, hat1, hq1, _, _⟩ := H.out.each x' q trivial hq
      have hy1 : y1 = .lit (.int .i64 (b : Int)) := by
        have := hat (.lit (.int .i64 0))
        rw [hat1] at this
        exact this.symm
      rw [hy1] at hptr
      have hmk := ptrElem_inv hptr
      rw [hmk] at hen ⊢
      have hb8 := HB.out.grown hg8 HB.out.size (by intro k hk; cases hk; exact Nat.le_refl _)
      obtain ⟨d0, d1, d2, d3⟩ := (hq1.below hb8).cell
      have hm0 : wr.rangeLeft mb W.heap.size = cnt := hrg.left_eq
      have ho8 : Own W.heap.size 9 1 w8 A acc.length c (strsL acc) := World.ownsRow.kept ho hg8 (by
        cases A with
        | none => exact .inl rfl
        | some a => exact .inr (by simpa [Value.ownBlock] using HNe.out a rfl))
      have hxacc : x' ∉ acc := fun hm => by
        have := ((HA.out x').1 hm).2
        rw [hlk] at this; cases this
      have hHA : ∀ z, z ≠ x' → ((left (.string z) && !(Lit.string z).sameKey (.string x')) = left (.string z)) := fun z hz => by
        rw [Maps.sameKey_ne (by simpa using hz)]; simp
      have hself : (left (.string x') && !(Lit.string x').sameKey (.string x')) = false := by simp [Lit.sameKey]
      have HHL : Hid (∀ kl, (left kl && !kl.sameKey (.string x')) = true → Maps.has D kl = true) := Lib.hid (fun kl h => HL.out kl (by rw [Bool.and_eq_true] at h; exact h.1))
      have hqm := hq1.len
      clear hat hat1 hptr hy1 hrg ho hkey he1 hlk HL hq1 HB hg8 hhas hs8 hs6
      by_cases hql : q.l = []
      · have hmany : (q.l.length : Int) = 0 := by rw [hql]; rfl
        rw [hmany] at d3
        have hHA2 : ∀ z, z ∈ acc ↔ z ∈ heldN qs ∧ (left (.string z) && !(Lit.string z).sameKey (.string x')) = false := by
          intro z
          by_cases hz : z = x'
          · subst hz
            constructor
            · exact fun h => absurd h hxacc
            · rintro ⟨h1, _⟩
              obtain ⟨q', h2, h3⟩ := (held_mem H.out.nodup).1 h1
              rw [hq] at h2; cases h2
              exact absurd hql h3
          · rw [hHA z hz]; exact HA.out z
        have HHA2 := Lib.hid hHA2
        clear hHA2 hHA hself hmany hql
        have hm9 := hrg8.left_eq
        go_wp2_with fail
        go_roundw
        case rel => exact ⟨_, _, A, c, acc, rfl, hrg8, ho8, hc0, by omega, HN, HHA2, HHL, HNe, Lib.hid hb8⟩
        case measure => omega
      · have hmany : 0 < (q.l.length : Int) := by have := List.length_pos_iff.2 hql; omega
        have hHA2 : ∀ z, z ∈ acc ++ [x'] ↔ z ∈ heldN qs ∧ (left (.string z) && !(Lit.string z).sameKey (.string x')) = false := by
          intro z
          rw [List.mem_append, List.mem_singleton]
          by_cases hz : z = x'
          · subst hz
            exact ⟨fun _ => ⟨(held_mem H.out.nodup).2 ⟨q, hq, hql⟩, hself⟩, fun _ => .inr rfl⟩
          · rw [hHA z hz, ← HA.out z]
            exact ⟨fun h => h.resolve_right hz, .inl⟩
        have HHA2 := Lib.hid hHA2
        have HN2 : Hid (acc ++ [x']).Nodup := Lib.hid (by
          rw [List.nodup_append]
          exact ⟨HN.out, by simp, fun a ha b hb e => by rw [List.mem_singleton] at hb; subst hb; subst e; exact hxacc ha⟩)
        have bn := below_alloc1 w8 (.cells #[.string (bstr x')] 9)
        have ho9 := Own.below ho8 bn
        have hrg9 := hrg8.alloc (.cells #[.string (bstr x')] 9)
        have hx9 := sl_cells w8 [.string (bstr x')] 9
        have hb9 := hb8.trans (bn.mono hb8.size)
        have hr9 := hrg8.lt
        have hmb9 := hrg8.owns.lt
        clear hHA2 hHA hself hql bn hb8
        go_upto_region 8 with fail
        go_wp2_with (at_builtin; go_loud (refine wpList_append_own_at _ rfl _ _ 31 rfl W.heap.size 9 i0 (.string { data := #[] }) 1 16 Try.underlying31 hi hz0 hz1 hz2 rfl (by decide) _ acc.length (strsL acc) rfl ho9 ⟨w8.heap.size, 0, none⟩ 1 1 [.string (bstr x')] rfl rfl (fun j u hj => by obtain ⟨ad', h1, h2⟩ := hx9.cells j u hj; cases h1; exact h2) (fun u hu => by rw [List.mem_singleton] at hu; subst hu; rfl) (by unfold maxLen; omega) (by omega) hb9.size ?_); intro v' w10 ho10 hg10 hv10 hob10)
        obtain ⟨A10, c10, rfl, o10⟩ := ownsRow_sliceI ho10
        have hkb : ∀ k, (Value.slice A acc.length c).ownBlock = some k → W.heap.size ≤ k ∧ k ≠ W.heap.size := fun k hk => by
          refine ⟨(World.ownsRow.lt ho9 k hk).1, ?_⟩
          cases A with
          | none => cases hk
          | some a => simp [Value.ownBlock] at hk; rw [← hk]; exact HNe.out a rfl
        have hrg10 := hrg9.kept hg10 (fun e => by have := hkb mb e.symm; omega) (fun e => (hkb _ e.symm).2 rfl)
        have hb10 := hb9.grown hg10 hb9.size (fun k hk => (hkb k hk).1)
        have hne10 : ∀ a, A10 = some a → a.block ≠ W.heap.size := fun a ha e => by
          rcases hob10 with h | h
          · rw [ha] at h
            exact (hkb a.block h.symm).2 e
          · rw [ha] at h
            simp [Value.ownBlock] at h
            omega
        have hm9 := hrg10.left_eq
        have e9 : strsL acc ++ [.string (bstr x')] = strsL (acc ++ [x']) := by simp [strsL]
        rw [e9] at o10
        go_wp2_with fail
        go_roundw
        case rel => exact ⟨_, _, A10, c10, acc ++ [x'], by simp, hrg10, by simpa using o10, (fun h => by
          subst h
          rcases o10.2 with ⟨h0, _⟩ | ⟨g, cap, cur, h0, _⟩
          · simp at h0
          · simp at h0), by rw [List.length_append]; simp only [List.length_cons, List.length_nil]; omega, HN2, HHA2, HHL, Lib.hid hne10, Lib.hid hb10⟩
        case measure => omega
end Go.Proofs.Ytcidifmikcnkcaa
