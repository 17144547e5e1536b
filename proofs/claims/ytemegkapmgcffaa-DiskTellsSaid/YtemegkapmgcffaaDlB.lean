import Derived.Test.YtemegkapmgcffaaDlA
/- The disk: a snap of it. -/
namespace Go.Proofs.Ytemegkapmgcffaa
open Go.RowKit
set_option linter.unusedSimpArgs false
set_option linter.unusedVariables false

/-- a row that is none of the disk's -/
def Rw (F : Nat → Prop) (w : World) (A : Option Addr) (n c : Nat) (vs : List Value) : Prop := Sl w 1 A n c vs ∧ (vs ≠ [] → ∀ a, A = some a → a.block < w.heap.size ∧ ¬ F a.block)
theorem Rw.sl {F : Nat → Prop} {w : World} {A : Option Addr} {n c : Nat} {vs : List Value} (h : Rw F w A n c vs) : Sl w 1 A n c vs := h.1
theorem Rw.step {F F' : Nat → Prop} {w w' : World} {A : Option Addr} {n c : Nat} {vs : List Value} (h : Rw F w A n c vs) (hc : Cg F F' w w') : Rw F' w' A n c vs := by
  by_cases h0 : vs = []
  · subst h0
    exact ⟨⟨fun j u hj => by simp at hj, h.1.len, h.1.le, h.1.none⟩, fun h => absurd rfl h⟩
  · refine ⟨sl_same h.1 (fun a ha => hc.block _ (h.2 h0 a ha).1 (h.2 h0 a ha).2), fun _ a ha => ⟨Nat.lt_of_lt_of_le (h.2 h0 a ha).1 hc.size, fun hf => ?_⟩⟩
    have h5 := h.2 h0 a ha
    rcases hc.new _ hf with h6 | h6
    · exact h5.2 h6
    · omega
theorem Rw.below {F : Nat → Prop} {w w' : World} {A : Option Addr} {n c : Nat} {vs : List Value} (h : Rw F w A n c vs) (hb : Below w.heap.size w w') : Rw F w' A n c vs := h.step (Cg.below hb)
theorem rw_own {F : Nat → Prop} {B : Nat} {t : TypeId} {w : World} {A : Option Addr} {n c : Nat} {vs : List Value} (h : Own B t 1 w A n c vs) (hF : ∀ q, F q → q < B) : Rw F w A n c vs :=
  ⟨h.sl, fun _ a ha => ⟨(own_lt h a ha).2, fun hf => by have := (own_lt h a ha).1; have := hF _ hf; omega⟩⟩
theorem own_types {b1 b2 s1 s2 n1 n2 c1 c2 : Nat} {t1 t2 : TypeId} {w : World} {A1 A2 : Option Addr} {cs1 cs2 : List Value} (h1 : Own b1 t1 s1 w A1 n1 c1 cs1) (h2 : Own b2 t2 s2 w A2 n2 c2 cs2) (hne : t1 ≠ t2) : ∀ a b, A1 = some a → A2 = some b → a.block ≠ b.block := by
  intro a b ha hb he
  subst ha hb
  rcases h1.2 with ⟨h, _⟩ | ⟨g, cap, cur, h, _, k1, _⟩
  · simp at h
  · rcases h2.2 with ⟨h', _⟩ | ⟨g', cap', cur', h', _, k2, _⟩
    · simp at h'
    · simp only [Value.slice.injEq, Option.some.injEq] at h h'
      have e1 : a.block = g := by rw [h.1]
      have e2 : b.block = g' := by rw [h'.1]
      rw [← e1] at k1
      rw [← e2, ← he, k1] at k2
      simp at k2
      exact hne k2.2
theorem infoIntD : (Try.prog.info? 3).map (fun i => (i.zero, i.size, i.bytes)) = some (some (.int .i64 0), 1, 8) := by kernel_rfl
theorem own_grown {B t1 s1 n1 c1 n c : Nat} {w w' : World} {A E : Option Addr} {cs : List Value} (h : Own B t1 s1 w E n1 c1 cs) (hg : w.grownBy w' (Value.slice A n c).ownBlock) (hne : ∀ x y, E = some x → A = some y → x.block ≠ y.block) : Own B t1 s1 w' E n1 c1 cs :=
  own_same h (fun a ha => hg.block _ (own_lt h a ha).2 (fun e2 => by
    cases A with
    | none => simp [Value.ownBlock] at e2
    | some b => simp [Value.ownBlock] at e2; exact hne a b ha rfl e2))
/-- append of one to a row of one's own -/
theorem run_append_one {base n c by_ : Nat} {tS t : TypeId} {z v : Value} {w : World} {A : Option Addr} {cs : List Value} (ht : Try.prog.underlying tS = some (.slice t)) (hinfo : (Try.prog.info? t).map (fun i => (i.zero, i.size, i.bytes)) = some (some z, 1, by_)) (hz : z.cells.size = 1) (hv : v.oneCell' = true)
    (ho : Own base t 1 w A n c cs) (hn : n ≤ 1000000) (hby : by_ ≤ 64) (hbase : base ≤ w.heap.size) :
    ∃ A' d w', (Builtin.append_ #[tS, tS] tS #[.slice A n c, .slice (some ⟨w.heap.size, 0, none⟩) 1 1]).run Try.prog (w.alloc (.cells #[v] t)) = .ok (.slice A' (n + 1) d) w' ∧ Own base t 1 w' A' (n + 1) d (cs ++ [v]) ∧ w.grownBy w' (Value.slice A n c).ownBlock ∧ ∀ y, A' = some y → (∃ x, A = some x ∧ x.block = y.block) ∨ w.heap.size ≤ y.block := by
  obtain ⟨i0, hi, hz0, hi1, hi2⟩ := info_parts hinfo
  have hb := below_alloc1 w (.cells #[v] t)
  have ho2 := ho.below hb
  have hbig : (n + 1) * by_ ≤ 140737488355328 := by
    have : (n + 1) * by_ ≤ 1000001 * 64 := Nat.mul_le_mul (by omega) hby
    omega
  obtain ⟨v', w', hrun, h2, h3, h4, h5⟩ := run_append_own_at (P := Try.prog) (w.alloc (.cells #[v] t)) base tS tS t i0 z 1 by_ ht hi hz0 hi1 hi2 hz (by omega) (.slice A n c) n cs ho2 ⟨w.heap.size, 0, none⟩ 1 1 [v] rfl
    (fun j u hj => by
      obtain ⟨a, h1, h2⟩ := (sl_cells w [v] t).cells j u hj
      cases h1
      exact h2) (by intro u hu; simp at hu; subst hu; exact hv) (by unfold maxLen; omega) hbig (Nat.le_trans hbase hb.size)
  obtain ⟨A', d, rfl, h6⟩ := ownsRow_sliceI h2
  exact ⟨A', d, w', hrun, h6, grownBy_trans (below_grownBy hb _) h3, fun y hy => by
    rcases lies_own h5 y hy with h7 | h7
    · exact .inl h7
    · exact .inr (Nat.le_trans hb.size h7)⟩
def txV (D : Dk) : List Value := D.fs.map fun f => .string (bstr (readD D f.nm).1)
def sfV (D : Dk) : List Value := D.fs.map fun f => .int .i64 ((lookF D.fs f.nm).safe : Int)
theorem map_snoc {α : Type} {f : Fl → α} {fs : List Fl} {i : Nat} {x : Fl} (h : fs[i]? = some x) : (fs.take (i + 1)).map f = (fs.take i).map f ++ [f x] := by
  rw [List.take_add_one, h]
  simp
section
variable {w : World} {base p : Nat} {D : Dk} {F : Nat → Prop}
set_option maxRecDepth 100000 in
set_option maxHeartbeats 8000000 in
theorem snap_own (h : DkIs w base p D F) : Calls Try.prog 58 #[.pointer (some ⟨p, 0, none⟩)] w fun x w' => ∃ A a B b E e, x = .returned (.tuple #[.slice A D.fs.length a, .slice B D.fs.length b, .slice E D.fs.length e]) ∧ Own w.heap.size 9 1 w' A D.fs.length a (nmV D.fs) ∧ Own w.heap.size 9 1 w' B D.fs.length b (txV D) ∧ Own w.heap.size 3 1 w' E D.fs.length e (sfV D) ∧ Below w.heap.size w w' := by
  have hfew := h.good.few
  have hF := Lib.hid (fun q hq => (h.bound q hq).2)
  have H := Lib.hid h
  clear h
  go_enter Try.func58, Try.ntmps58
  go_wp2_with fail
  refine (List_any H.out).mono ?_; rintro x w1 ⟨A, a, rfl, ho1, hb1⟩
  have Ho1 := Lib.hid ho1
  have Hb1 := Lib.hid hb1
  obtain ⟨n, hn⟩ : ∃ n, n = D.fs.length := ⟨_, rfl⟩
  rw [← hn] at Ho1 hfew ⊢
  have Hn := Lib.hid hn
  clear ho1 hb1 hn
  go_wp2_with fail
  go_loopw [6, 7, 16] (fun s6 s7 s16 wx => ∃ (i : Nat) (B : Option Addr) (b : Nat) (E : Option Addr) (e : Nat), i ≤ n ∧ s16 = .int .i64 (i : Int) ∧ s6 = .slice B i b ∧ s7 = .slice E i e ∧ Hid (Own w.heap.size 9 1 wx B i b ((D.fs.take i).map fun f => .string (bstr (readD D f.nm).1))) ∧ Hid (Own w.heap.size 3 1 wx E i e ((D.fs.take i).map fun f => .int .i64 ((lookF D.fs f.nm).safe : Int))) ∧ Hid (Own w.heap.size 9 1 wx A n a (nmV D.fs)) ∧ Hid (∀ x y, A = some x → B = some y → x.block ≠ y.block) ∧ Hid (Below w.heap.size w wx)) (fun _ _ iv _ => n - (intOf iv).toNat)
  case atStart => exact ⟨0, none, 0, none, 0, by omega, rfl, rfl, rfl, Lib.hid ⟨rfl, .inl ⟨rfl, rfl⟩⟩, Lib.hid ⟨rfl, .inl ⟨rfl, rfl⟩⟩, Ho1, Lib.hid (fun _ _ _ h => by cases h), Hb1⟩
  case round =>
    obtain ⟨i, B, b, E, e, hi, rfl, rfl, rfl, HB, HE, HA, HAB, HW⟩ := hrel
    by_cases h1 : (i : Int) < (n : Int)
    · obtain ⟨f, hf⟩ := get_some D.fs i (by rw [← Hn.out]; omega)
      have hin : (0 : Int) ≤ (i : Int) ∧ (i : Int) < (n : Int) := by omega
      obtain ⟨ad, hA, hc⟩ := HA.out.sl.cells i (.string (bstr f.nm)) (by unfold nmV; rw [List.getElem?_map, hf]; rfl)
      subst hA
      have Hf := Lib.hid hf
      clear hf
      go_wp2_with fail
      refine (Read_any (H.out.below HW.out) f.nm).mono ?_; rintro x w2 ⟨A2, c2, rfl, ho2, hb2⟩
      have hst := run_str ho2.sl
      obtain ⟨tx, htx⟩ : ∃ tx, tx = (readD D f.nm).1 := ⟨_, rfl⟩
      have Htx := Lib.hid htx
      rw [← htx] at hst
      have HW2 := Lib.hid (HW.out.trans (hb2.mono HW.out.size))
      have HB2 := Lib.hid (HB.out.below hb2)
      have HE2 := Lib.hid (HE.out.below hb2)
      have HA2 := Lib.hid (HA.out.below hb2)
      obtain ⟨B3, b3, w3, hr3, ho3, hg3, hl3⟩ := run_append_one (v := .string (bstr tx)) Try.underlying47 infoStrD rfl rfl HB2.out (by omega) (by omega) HW2.out.size
      have HR3 := Lib.hid hr3
      have HO3 := Lib.hid ho3
      have HG3 := Lib.hid hg3
      rw [← htx]
      clear htx ho2 hb2 hr3 ho3 hg3 hc HW HB HE HA
      have HA3 := Lib.hid (own_grown HA2.out HG3.out HAB.out)
      have HE3 := Lib.hid (own_grown HE2.out HG3.out (own_types HE2.out HB2.out (by decide)))
      have HW3 := Lib.hid (HW2.out.grown HG3.out HW2.out.size (fun q hq => ownBlock_ge HB2.out hq))
      have HAB3 := Lib.hid (show ∀ x y, some ad = some x → B3 = some y → x.block ≠ y.block from fun x y hx hy he => by
        rcases hl3 y hy with ⟨z, h5, h6⟩ | h5
        · exact HAB.out x z hx h5 (by rw [h6]; exact he)
        · have := (own_lt HA2.out x hx).2
          omega)
      clear hl3 HG3 HAB HA2 HE2 HB2 HW2
      go_wp2_with (at_builtin; refine Lib.wpList_append_run _ rfl _ _ _ _ rfl _ _ rfl rfl _ _ HR3.out ?_)
      refine (Synced_any (H.out.below HW3.out) f.nm).mono ?_; rintro x w4 ⟨rfl, hb4⟩
      have HW4 := Lib.hid (HW3.out.trans (hb4.mono HW3.out.size))
      have HB4 := Lib.hid (HO3.out.below hb4)
      have HE4 := Lib.hid (HE3.out.below hb4)
      have HA4 := Lib.hid (HA3.out.below hb4)
      obtain ⟨E5, e5, w5, hr5, ho5, hg5, hl5⟩ := run_append_one (v := .int .i64 ((lookF D.fs f.nm).safe : Int)) Try.underlying53 infoIntD rfl rfl HE4.out (by omega) (by omega) HW4.out.size
      have HR5 := Lib.hid hr5
      have e1 : ((D.fs.take i).map fun f => Value.string (bstr (readD D f.nm).1)) ++ [.string (bstr tx)] = (D.fs.take (i + 1)).map fun f => Value.string (bstr (readD D f.nm).1) := by rw [map_snoc Hf.out, Htx.out]
      have e2 : ((D.fs.take i).map fun f => Value.int .i64 ((lookF D.fs f.nm).safe : Int)) ++ [.int .i64 ((lookF D.fs f.nm).safe : Int)] = (D.fs.take (i + 1)).map fun f => Value.int .i64 ((lookF D.fs f.nm).safe : Int) := by rw [map_snoc Hf.out]
      have HB5 := Lib.hid (own_grown HB4.out hg5 (own_types HB4.out HE4.out (by decide)))
      have HA5 := Lib.hid (own_grown HA4.out hg5 (own_types HA4.out HE4.out (by decide)))
      have HW5 := Lib.hid (HW4.out.grown hg5 HW4.out.size (fun q hq => ownBlock_ge HE4.out hq))
      rw [e1] at HB5
      rw [e2] at ho5
      have HE5 := Lib.hid ho5
      clear hr5 ho5 hg5 hl5 hb4 e1 e2 HA4 HB4 HE4 HW4 HA3 HE3 HO3 HW3
      go_wp2_with (at_builtin; refine Lib.wpList_append_run _ rfl _ _ _ _ rfl _ _ rfl rfl _ _ HR5.out ?_)
      go_roundw
      case rel => exact ⟨i + 1, B3, b3, E5, e5, by omega, by go_num, rfl, rfl, HB5, HE5, HA5, HAB3, HW5⟩
      case measure => simp [intOf]; omega
    · obtain rfl : i = n := by omega
      have hall : D.fs.take i = D.fs := List.take_of_length_le (by rw [← Hn.out]; omega)
      rw [hall] at HB HE
      have R1 := Lib.hid HA.out
      have R2 := Lib.hid (show Own w.heap.size 9 1 wr B i b (txV D) from HB.out)
      have R3 := Lib.hid (show Own w.heap.size 3 1 wr E i e (sfV D) from HE.out)
      clear HA HB HE hall
      go_wp2_with fail
      refine bodyPost_ret (v := .tuple #[.slice A i a, .slice B i b, .slice E i e]) (by simp [results, Try.results58, go_sem]) rfl ?_
      rw [← Hn.out]
      exact ⟨A, a, B, b, E, e, rfl, R1.out, R2.out, R3.out, HW.out⟩
theorem snap_any (h : DkIs w base p D F) : Calls Try.prog 58 #[.pointer (some ⟨p, 0, none⟩)] w fun x w' => ∃ A a B b E e, x = .returned (.tuple #[.slice A D.fs.length a, .slice B D.fs.length b, .slice E D.fs.length e]) ∧ Rw F w' A D.fs.length a (nmV D.fs) ∧ Rw F w' B D.fs.length b (txV D) ∧ Rw F w' E D.fs.length e (sfV D) ∧ Below w.heap.size w w' := by
  have hF := fun q hq => (h.bound q hq).2
  exact (snap_own h).mono fun x w' ⟨A, a, B, b, E, e, h1, h2, h3, h4, h5⟩ => ⟨A, a, B, b, E, e, h1, rw_own h2 hF, rw_own h3 hF, rw_own h4 hF, h5⟩
end
end Go.Proofs.Ytemegkapmgcffaa
