import Derived.Test.YtemegkapmgcffaaPureDisk
import Derived.Test.YtemegkapmgcffaaInsertF
import Derived.Test.YtemegkapmgcffaaRegionN
import Derived.Test.YtemegkapmgcffaaRelA
import Derived.Lib.MinMax
import Derived.BigQuiet
/- The disk in memory; its files' places. -/
namespace Go.Proofs.Ytemegkapmgcffaa
open Go.RowKit
set_option linter.unusedSimpArgs false
set_option linter.unusedVariables false

/-- a file, and where its bytes lie -/
structure FE where
  f : Fl
  A : Option Addr
  c : Nat
def feC (e : FE) : List Value := [.string (bstr e.f.nm), .slice e.A e.f.b.length e.c, .int .i64 e.f.safe]
def flatFE (es : List FE) : List Value := es.flatMap feC
theorem flatFE_len (es : List FE) : (flatFE es).length = es.length * 3 := flatMap_len feC 3 (fun _ => rfl) es
theorem flatFE_one (es : List FE) : ∀ u ∈ flatFE es, u.oneCell' = true := by
  intro u hu
  simp only [flatFE, List.mem_flatMap] at hu
  obtain ⟨e, _, h⟩ := hu
  simp [feC] at h
  rcases h with rfl | rfl | rfl <;> rfl
theorem slFE_len {w : World} {A : Option Addr} {m d : Nat} {es : List FE} (h : Sl w 3 A m d (flatFE es)) : es.length = m := by have := h.len; rw [flatFE_len] at this; omega
theorem slFE_addr {w : World} {A : Option Addr} {m d : Nat} {es : List FE} (h : Sl w 3 A m d (flatFE es)) {k : Nat} {t : FE} (hk : es[k]? = some t) : ∃ ad, A = some ad := by
  obtain ⟨ad, h1, _⟩ := h.cells (k * 3 + 0) _ (flatMap_get feC 3 (fun _ => rfl) hk (j := 0) rfl)
  exact ⟨ad, h1⟩
theorem slFE_three {w : World} {ad : Addr} {m d : Nat} {es : List FE} (h : Sl w 3 (some ad) m d (flatFE es)) {k : Nat} {t : FE} (hk : es[k]? = some t) :
    w.cell? (ad.add (k * 3)) = some (.string (bstr t.f.nm)) ∧ w.cell? { block := (ad.add (k * 3)).block, off := (ad.add (k * 3)).off + 1, spot := none } = some (.slice t.A t.f.b.length t.c) ∧ w.cell? { block := (ad.add (k * 3)).block, off := (ad.add (k * 3)).off + 2, spot := none } = some (.int .i64 t.f.safe) := by
  have key : ∀ j u, (feC t)[j]? = some u → w.cell? ((ad.add (k * 3)).add j) = some u := by
    intro j u hj
    obtain ⟨a, h1, h2⟩ := h.cells (k * 3 + j) u (flatMap_get feC 3 (fun _ => rfl) hk hj)
    cases h1
    rwa [addr_add_add]
  exact ⟨key 0 _ rfl, key 1 _ rfl, key 2 _ rfl⟩
set_option maxHeartbeats 1000000 in
theorem isNaN_any (x : ByteArray) (w : World) : Calls Try.prog 142 #[.string x] w fun e w' => e = .returned (.bool false) ∧ w' = w := by
  go_enter Try.func142, Try.ntmps142
  go_wp2_with fail
  go_ret
  exact ⟨by simp, rfl⟩
set_option maxHeartbeats 1000000 in
theorem cmp_any (a b : Nm) (w : World) : Calls Try.prog 124 #[.string (bstr a), .string (bstr b)] w fun e w' => e = .returned (.int .i64 (cmpN a b)) ∧ w' = w := by
  go_enter Try.func124, Try.ntmps124
  go_wp2_with fail
  refine (isNaN_any _ _).mono ?_; rintro e w1 ⟨rfl, rfl⟩
  go_wp2_with fail
  refine (isNaN_any _ _).mono ?_; rintro e w2 ⟨rfl, rfl⟩
  cases h1 : Op.bytesLess a b with
  | true =>
    go_wp2_with fail
    go_ret
    exact ⟨by rw [cmpN_lt h1]; rfl, rfl⟩
  | false =>
    cases h2 : Op.bytesLess b a with
    | true =>
      have hne : ¬ a = b := by rintro rfl; rw [bl_irrefl] at h2; cases h2
      have hbq : (a == b) = false := by simpa using hne
      go_wp2_with fail
      go_ret
      exact ⟨by rw [cmpN_gt h2]; rfl, rfl⟩
    | false =>
      obtain rfl := bl_tri h1 h2
      go_wp2_with fail
      go_ret
      exact ⟨by rw [cmpN_eq]; rfl, rfl⟩
set_option maxHeartbeats 1000000 in
theorem plcmp_any (e : FE) (nm : Nm) (w : World) : Calls Try.prog 123 #[.agg #[.string (bstr e.f.nm), .slice e.A e.f.b.length e.c, .int .i64 e.f.safe], .string (bstr nm)] w fun x w' => x = .returned (.int .i64 (cmpN e.f.nm nm)) ∧ Below w.heap.size w w' := by
  have hb := below_alloc1 w (.cells #[.string (bstr e.f.nm), .slice e.A e.f.b.length e.c, .int .i64 e.f.safe] 117)
  go_enter Try.func123, Try.ntmps123
  go_wp2_with fail
  refine (cmp_any _ _ _).mono ?_; rintro x w1 ⟨rfl, rfl⟩
  go_wp2_with fail
  go_ret
  exact ⟨rfl, hb⟩
theorem ret_xb {x : Value} {a b : Bool} (h : a = b) : Ending.returned (.tuple #[x, .bool a]) = .returned (.tuple #[x, .bool b]) := by rw [h]
theorem cmpN_zero {a b : Nm} : cmpN a b = 0 ↔ a = b := by
  constructor
  · intro h
    unfold cmpN at h
    split at h
    · cases h
    · split at h
      · cases h
      · rename_i h1 h2
        exact bl_tri (by simpa using h1) (by simpa using h2)
  · rintro rfl; exact cmpN_eq a
set_option maxRecDepth 100000 in
set_option maxHeartbeats 4000000 in
theorem bsF_any (A : Option Addr) (m d : Nat) (es : List FE) (nm : Nm) (w : World) (hs : Sl w 3 A m d (flatFE es)) (hm : m ≤ 1000000) (hso : SrtF (es.map FE.f)) :
    Calls Try.prog 122 #[.slice A m d, .string (bstr nm), .func (.func 123) #[] #[]] w fun e w' => e = .returned (.tuple #[.int .i64 (posF (es.map FE.f) nm : Int), .bool (thereF (es.map FE.f) nm)]) ∧ Below w.heap.size w w' := by
  have hl := slFE_len hs
  have Hso := Lib.hid hso
  clear hso
  have hget : ∀ {j : Nat} {t : FE}, es[j]? = some t → (es.map FE.f)[j]? = some t.f := fun h => by rw [List.getElem?_map, h]; rfl
  have Hget := Lib.hid (fun (j : Nat) (t : FE) (h : es[j]? = some t) => hget h)
  clear hget
  go_enter Try.func122, Try.ntmps122
  go_wp2_with fail
  go_loopw [9, 10] (fun s9 s10 wx => ∃ (lo hi : Nat), lo ≤ hi ∧ hi ≤ m ∧ s9 = .int .i64 (lo : Int) ∧ s10 = .int .i64 (hi : Int) ∧ Hid (∀ j x, j < lo → (es.map FE.f)[j]? = some x → Op.bytesLess x.nm nm = true) ∧ Hid (∀ j x, hi ≤ j → (es.map FE.f)[j]? = some x → Op.bytesLess x.nm nm = false) ∧ Below w.heap.size w wx) (fun lv hv _ => (intOf hv).toNat - (intOf lv).toNat)
  case atStart => exact ⟨0, m, by omega, by omega, rfl, rfl, Lib.hid (fun j q hj => absurd hj (by omega)), Lib.hid (fun j q hj hq => by have := (List.getElem?_eq_some_iff.1 hq).1; simp at this; omega), Below.refl _ _⟩
  case round =>
    obtain ⟨lo, hi, hlh, hhm, rfl, rfl, HL, HH, hb⟩ := hrel
    by_cases h1 : (lo : Int) < (hi : Int)
    · obtain ⟨t, ht⟩ := get_some es ((lo + hi) / 2) (by omega)
      have hsx := hs.below hb
      obtain ⟨ad, rfl⟩ := slFE_addr hs ht
      obtain ⟨y0, y1, y2⟩ := slFE_three hsx ht
      have hin : (0 : Int) ≤ (((lo + hi) / 2 : Nat) : Int) ∧ (((lo + hi) / 2 : Nat) : Int) < (m : Int) := by omega
      have Ht := Lib.hid (Hget.out _ _ ht)
      have Hm := Lib.hid (show lo ≤ (lo + hi) / 2 ∧ (lo + hi) / 2 < hi by omega)
      clear ht hsx hs
      go_wp2_with fail
      refine (plcmp_any t nm _).mono ?_; rintro x w2 ⟨rfl, hb2⟩
      have hb3 := hb.trans (hb2.mono hb.size)
      clear hb hb2 y0 y1 y2
      cases h2 : Op.bytesLess t.f.nm nm with
      | true =>
        rw [cmpN_lt h2]
        have HL2 := Lib.hid (show ∀ j x, j < (lo + hi) / 2 + 1 → (es.map FE.f)[j]? = some x → Op.bytesLess x.nm nm = true from fun j x hj hx => by
          rcases Nat.lt_succ_iff_lt_or_eq.1 hj with hlt | rfl
          · exact bl_trans (Hso.out j _ x t.f hlt hx Ht.out) h2
          · rw [Ht.out] at hx; cases hx; exact h2)
        clear h2
        go_wp2_with fail
        go_roundw
        case rel => exact ⟨(lo + hi) / 2 + 1, hi, by have := Hm.out; omega, by omega, by congr 1, rfl, HL2, HH, hb3⟩
        case measure => have := Hm.out; simp [intOf]; omega
      | false =>
        have hc : cmpN t.f.nm nm = 1 ∨ cmpN t.f.nm nm = 0 := by
          unfold cmpN
          rw [h2]
          split
          · rename_i h; cases h
          · split
            · exact .inl rfl
            · exact .inr rfl
        have HH2 := Lib.hid (show ∀ j x, (lo + hi) / 2 ≤ j → (es.map FE.f)[j]? = some x → Op.bytesLess x.nm nm = false from fun j x hj hx => by
          rcases Nat.lt_or_eq_of_le hj with hlt | rfl
          · cases h3 : Op.bytesLess x.nm nm with
            | false => rfl
            | true => rw [bl_trans (Hso.out _ j t.f x hlt Ht.out hx) h3] at h2; cases h2
          · rw [Ht.out] at hx; cases hx; exact h2)
        clear h2
        rcases hc with hc | hc
        all_goals
          rw [hc]
          clear hc
          go_wp2_with fail
          go_roundw
          case rel => exact ⟨lo, (lo + hi) / 2, by have := Hm.out; omega, by have := Hm.out; omega, rfl, by congr 1, HL, HH2, hb3⟩
          case measure => have := Hm.out; simp [intOf]; omega
    · obtain rfl : lo = hi := by omega
      have hp := posF_of (fs := es.map FE.f) (nm := nm) (by simp; omega) HL.out (fun x hx => HH.out lo x (Nat.le_refl _) hx)
      have Hp := Lib.hid hp
      clear hp
      by_cases h3 : (lo : Int) < (m : Int)
      · obtain ⟨t, ht⟩ := get_some es lo (by omega)
        have hsx := hs.below hb
        obtain ⟨ad, rfl⟩ := slFE_addr hs ht
        obtain ⟨y0, y1, y2⟩ := slFE_three hsx ht
        have hin : (0 : Int) ≤ (lo : Int) ∧ (lo : Int) < (m : Int) := by omega
        have Hth := Lib.hid (show thereF (es.map FE.f) nm = decide (t.f.nm = nm) by unfold thereF; rw [Hp.out, Hget.out _ _ ht])
        clear ht hsx hs
        go_wp2_with fail
        refine (plcmp_any t nm _).mono ?_; rintro x w2 ⟨rfl, hb2⟩
        have hb3 := hb.trans (hb2.mono hb.size)
        clear hb hb2 y0 y1 y2
        have Hq := Lib.hid (cmpN_zero (a := t.f.nm) (b := nm))
        go_wp2_with fail
        go_ret2
        rw [Hp.out, Hth.out]
        exact ⟨ret_xb (by rw [Bool.eq_iff_iff]; simpa using Hq.out), hb3⟩
      · obtain rfl : lo = m := by omega
        have Hth := Lib.hid (show thereF (es.map FE.f) nm = false by unfold thereF; rw [Hp.out, List.getElem?_eq_none (by simp; omega)])
        go_wp2_with fail
        go_ret2
        rw [Hp.out, Hth.out]
        exact ⟨rfl, hb⟩
set_option maxHeartbeats 1000000 in
theorem place_any (A : Option Addr) (m d : Nat) (es : List FE) (nm : Nm) (w : World) (hs : Sl w 3 A m d (flatFE es)) (hm : m ≤ 1000000) (hso : SrtF (es.map FE.f)) :
    Calls Try.prog 78 #[.slice A m d, .string (bstr nm)] w fun e w' => e = .returned (.tuple #[.int .i64 (posF (es.map FE.f) nm : Int), .bool (thereF (es.map FE.f) nm)]) ∧ Below w.heap.size w w' := by
  go_enter Try.func78, Try.ntmps78
  go_wp2_with fail
  refine (bsF_any A m d es nm w hs hm hso).mono ?_; rintro x w2 ⟨rfl, hb2⟩
  go_wp2_with fail
  go_ret2
  exact ⟨rfl, hb2⟩
end Go.Proofs.Ytemegkapmgcffaa
