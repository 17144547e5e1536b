import Derived.Test.YtemegkapmgcffaaDkR
import Derived.Test.YtemegkapmgcffaaDkN
import Derived.Test.YtemegkapmgcffaaDkJ
import Derived.Test.YtemegkapmgcffaaRegionT
/- The disk: Crash. -/
namespace Go.Proofs.Ytemegkapmgcffaa
open Go.RowKit
set_option linter.unusedSimpArgs false
set_option linter.unusedVariables false

def isLf (B : Nat) (f : Fl) (v : Value) (w : World) : Prop := ∃ A c, v = .agg #[.string (bstr f.nm), .slice A f.b.length c, .int .i64 f.safe] ∧ Own B 5 1 w A f.b.length c (bytesV f.b)
theorem isLf_elim {B : Nat} {f : Fl} {v : Value} {w : World} (h : isLf B f v w) : ∃ A c, v = .agg #[.string (bstr f.nm), .slice A f.b.length c, .int .i64 f.safe] ∧ Own B 5 1 w A f.b.length c (bytesV f.b) := h
theorem isLf_stable (B : Nat) (f : Fl) : Stable (isLf B f) := fun _ _ _ hb ⟨A, c, h1, h2⟩ => ⟨A, c, h1, h2.below hb⟩
theorem left_nm (f : Fl) (k t : Int) : (leftF f k t).nm = f.nm := rfl
theorem left_le (f : Fl) (k t : Int) (h : f.safe ≤ f.b.length) : (leftF f k t).b.length ≤ f.b.length ∧ (leftF f k t).safe = (leftF f k t).b.length := by
  unfold leftF
  simp only [List.length_append, List.length_take, List.length_replicate]
  omega
theorem left_such {B c : Nat} {f : Fl} {A : Option Addr} {keep tear : Nat} {w : World} (hB : B ≤ w.heap.size) (hs : Sl w 1 A f.b.length c (bytesV f.b)) (hl : f.b.length ≤ 16777216) (hsf : f.safe ≤ f.b.length) (hk : (keep : Int) ≤ 9223372036854775807) (ht : (tear : Int) ≤ 9223372036854775807) :
    Calls Try.prog 94 #[.agg #[.string (bstr f.nm), .slice A f.b.length c, .int .i64 f.safe], .int .i64 keep, .int .i64 tear] w fun x w' => ∃ v, x = .returned v ∧ Below w.heap.size w w' ∧ isLf B (leftF f keep tear) v w' :=
  (left_any f A c keep tear w hs hl hsf hk ht).mono fun x w' ⟨A', c', h1, h2, h3⟩ => ⟨_, h1, h3, A', c', rfl, Own.lower h2 hB⟩
def mixF (fs : List Fl) (ks ts : List Int) (i : Nat) : List Fl := fs.mapIdx fun j f => if j < i then leftF f (toldI ks j) (toldI ts j) else f
def mixD (D : Dk) (ks ts : List Int) (i : Nat) : Dk := { D with fs := mixF D.fs ks ts i }
theorem mix_zero (D : Dk) (ks ts : List Int) : mixD D ks ts 0 = D := by
  unfold mixD mixF
  have : D.fs.mapIdx (fun j f => if j < 0 then leftF f (toldI ks j) (toldI ts j) else f) = D.fs := by
    apply List.ext_getElem
    · simp
    · intro i h1 h2; simp
  rw [this]
theorem mix_get {fs : List Fl} {ks ts : List Int} {i : Nat} : (mixF fs ks ts i)[i]? = fs[i]? := by
  unfold mixF
  rw [List.getElem?_mapIdx]
  cases fs[i]? <;> simp
theorem mix_succ {fs : List Fl} {ks ts : List Int} {i : Nat} {f : Fl} (h : fs[i]? = some f) : mixF fs ks ts (i + 1) = (mixF fs ks ts i).set i (leftF f (toldI ks i) (toldI ts i)) := by
  have hi := (List.getElem?_eq_some_iff.1 h).1
  have hf := (List.getElem?_eq_some_iff.1 h).2
  unfold mixF
  apply List.ext_getElem
  · simp
  · intro j h1 h2
    simp only [List.length_mapIdx] at h1
    rw [List.getElem_set]
    simp only [List.getElem_mapIdx]
    by_cases he : i = j
    · subst he
      rw [if_pos (by omega), if_pos rfl, hf]
    · rw [if_neg he]
      by_cases hj : j < i
      · rw [if_pos (by omega), if_pos hj]
      · rw [if_neg (by omega), if_neg hj]
theorem mix_all (D : Dk) (ks ts : List Int) : mixF D.fs ks ts D.fs.length = crashF D.fs ks ts := by
  unfold mixF crashF
  apply List.ext_getElem
  · simp
  · intro j h1 h2
    simp only [List.length_mapIdx] at h1
    simp [h1]
theorem told_nat (l : List Int) (i : Nat) (hb : ∀ x, x ∈ l → x ≤ 9223372036854775807) : ∃ k : Nat, toldI l i = (k : Int) ∧ (k : Int) ≤ 9223372036854775807 := by
  have h0 : 0 ≤ toldI l i := by
    unfold toldI
    split
    · split <;> omega
    · omega
  have h1 : toldI l i ≤ 9223372036854775807 := by
    unfold toldI
    split
    · rename_i x hx
      have := hb x (List.mem_of_getElem? hx)
      split <;> omega
    · omega
  exact ⟨(toldI l i).toNat, by omega, by omega⟩
section
variable {W : World} {base p : Nat} {D : Dk} {F : Nat → Prop} {R : Option Addr} {c : Nat} {es : List FE}
/-- a file of the row gets other bytes -/
theorem DI.newfile {w w' : World} {k g : Nat} {e : FE} {f' : Fl} {A' : Option Addr} {c' B : Nat} (h : DI w base p D F (some ⟨g, 0, none⟩) c es) (he : es[k]? = some e) (ho : Own B 5 1 w A' f'.b.length c' (bytesV f'.b)) (hFB : ∀ q, F q → q < B) (hB : base ≤ B)
    (hg : w.grownBy w' (some g)) (hrow : Own base 117 3 w' (some ⟨g, 0, none⟩) es.length c (flatFE (es.set k ⟨f', A', c'⟩))) (hgd : Good { D with fs := D.fs.set k f' }) :
    ∃ F', DI w' base p { D with fs := D.fs.set k f' } F' (some ⟨g, 0, none⟩) c (es.set k ⟨f', A', c'⟩) ∧ ∀ q, F' q → F q ∨ B ≤ q := by
  have hpB := hFB p h.fp
  have hgB := hFB g (h.fr _ rfl).1
  have hw := h.widen (F' := fun q => F q ∨ ∃ a, A' = some a ∧ q = a.block) (fun q hq => .inl hq) (fun q hq => by
    rcases hq with hq | ⟨a, ha, rfl⟩
    · exact h.bound q hq
    · have := own_lt ho a ha; omega)
  have hfin := hw.rowed (e' := ⟨f', A', c'⟩) rfl he hg hrow hgd ⟨(own_same ho (fun a ha => hg.block _ (own_lt ho a ha).2 (fun e2 => by have := (own_lt ho a ha).1; have := Option.some.inj e2; omega))).sl, fun a ha => ⟨.inr ⟨a, ha, rfl⟩, by have := (own_lt ho a ha).1; omega, by have := (own_lt ho a ha).1; omega⟩⟩
  refine ⟨_, hfin.1, fun q hq => ?_⟩
  rcases hq with hq | ⟨a, ha, rfl⟩
  · exact .inl hq
  · exact .inr (own_lt ho a ha).1
set_option maxRecDepth 100000 in
set_option maxHeartbeats 8000000 in
theorem Crash_any (h : DkIs W base p D F) {K1 K2 : Option Addr} {n1 c1 n2 c2 : Nat} {ks ts : List Int} (s1 : Sl W 1 K1 n1 c1 (ks.map fun x => .int .i64 x)) (s2 : Sl W 1 K2 n2 c2 (ts.map fun x => .int .i64 x)) (h1F : ∀ a, K1 = some a → ks ≠ [] → ¬ F a.block) (h2F : ∀ a, K2 = some a → ts ≠ [] → ¬ F a.block)
    (hn1 : n1 ≤ 9223372036854775807) (hn2 : n2 ≤ 9223372036854775807) (hk1 : ∀ x, x ∈ ks → x ≤ 9223372036854775807) (hk2 : ∀ x, x ∈ ts → x ≤ 9223372036854775807) :
    Calls Try.prog 37 #[.pointer (some ⟨p, 0, none⟩), .slice K1 n1 c1, .slice K2 n2 c2] W fun x w' => x = .returned (.tuple #[]) ∧ ∃ F', DkIs w' base p (crashD D ks ts) F' ∧ Cg F F' W w' := by
  obtain ⟨R, c, es, h⟩ := h
  have H := Lib.hid h
  have hl200 := h.len
  have hc0 := h.cell.1
  have hes := Lib.hid (show es.length = D.fs.length by rw [← h.fs, List.length_map])
  have S01 := Lib.hid s1
  have S02 := Lib.hid s2
  have HK1 := Lib.hid hk1
  have HK2 := Lib.hid hk2
  have H1F := Lib.hid h1F
  have H2F := Lib.hid h2F
  clear s1 s2 h hk1 hk2 h1F h2F
  go_enter Try.func37, Try.ntmps37
  go_wp2_with fail
  refine (made_any H.out).mono ?_; rintro e w1 ⟨rfl, rfl⟩
  go_wp2_with fail
  go_loopw [16] (fun s16 wx => ∃ (i : Nat) (Fi : Nat → Prop) (ei : List FE), i ≤ es.length ∧ s16 = .int .i64 (i : Int) ∧ Hid (DI wx base p (mixD D ks ts i) Fi R c ei) ∧ Hid (Cg F Fi W wx) ∧ Hid (ei.length = es.length)) (fun iv _ => es.length - (intOf iv).toNat)
  case atStart => exact ⟨0, F, es, by omega, rfl, Lib.hid (by rw [mix_zero]; exact H.out), Lib.hid (Cg.below (Below.refl _ _)), Lib.hid rfl⟩
  case round =>
    obtain ⟨i, Fi, ei, hi, rfl, HI, HC, HL⟩ := hrel
    by_cases hin : (i : Int) < (es.length : Int)
    · obtain ⟨e, he⟩ := get_some ei i (by have := HL.out; omega)
      obtain ⟨g, rfl⟩ := rowAddr HI.out he
      obtain ⟨y0, y1, y2⟩ := slFE_three HI.out.row.sl he
      rw [add_plain] at y0 y1 y2
      simp only [] at y1 y2
      have hii : (0 : Int) ≤ (i : Int) ∧ (i : Int) < (es.length : Int) := by omega
      have hi200 : i < 200 := by omega
      have HE := Lib.hid he
      have hb3 := below_alloc1 wr (.cells #[.string (bstr e.f.nm), .slice e.A e.f.b.length e.c, .int .i64 e.f.safe] 117)
      obtain ⟨z0, z1, z2⟩ := box_cells3 wr (.string (bstr e.f.nm)) (.slice e.A e.f.b.length e.c) (.int .i64 e.f.safe) 117
      obtain ⟨w3, hw3⟩ : ∃ w3, w3 = wr.alloc (.cells #[.string (bstr e.f.nm), .slice e.A e.f.b.length e.c, .int .i64 e.f.safe] 117) := ⟨_, rfl⟩
      rw [← hw3] at hb3 z0 z1 z2
      have Z0 := Lib.hid z0
      have Z1 := Lib.hid z1
      have Z2 := Lib.hid z2
      have Hw3 := Lib.hid hw3
      have Hb3 := Lib.hid hb3
      have H1 := Lib.hid (show DI w3 base p (mixD D ks ts i) Fi (some ⟨g, 0, none⟩) c ei from HI.out.below hb3)
      have hC3 : Cg F Fi W w3 := HC.out.trans (Cg.below hb3)
      have HC3 := Lib.hid hC3
      have kept : ∀ {A : Option Addr} {n c : Nat} {l : List Int}, Sl W 1 A n c (l.map fun x => .int .i64 x) → (∀ a, A = some a → l ≠ [] → ¬ F a.block) → Sl w3 1 A n c (l.map fun x => .int .i64 x) := fun {A n c l} s hF => by
        by_cases h0 : n = 0
        · subst h0
          have hl := s.len
          have : l = [] := List.eq_nil_of_length_eq_zero (by simpa using hl)
          subst this
          exact ⟨fun j u hj => by simp at hj, rfl, s.le, s.none⟩
        · have hl := s.len
          simp only [List.length_map, Nat.mul_one] at hl
          refine sl_same s (fun a ha => ?_)
          subst ha
          obtain ⟨ad, h1, h2⟩ := s.cells 0 (.int .i64 (l[0]'(by omega))) (by simp [List.getElem?_map, List.getElem?_eq_getElem (show 0 < l.length by omega)])
          cases h1
          have := World.block_lt_of_cell? _ _ h2
          rw [add_block] at this
          exact hC3.block _ this (hF a rfl (by rintro rfl; simp at hl; omega))
      have S1 := Lib.hid (kept S01.out H1F.out)
      have S2 := Lib.hid (kept S02.out H2F.out)
      have Se := Lib.hid ((H1.out.each e (List.mem_of_getElem? he)).1)
      have hfi : (mixD D ks ts i).fs[i]? = some e.f := H1.out.fsAt he
      have hfD : D.fs[i]? = some e.f := by
        have h9 : (mixF D.fs ks ts i)[i]? = some e.f := hfi
        rwa [mix_get] at h9
      have hsf := H1.out.good.safe e.f (List.mem_of_getElem? hfi)
      have hl1 : e.f.b.length ≤ 16777216 := by
        have h5 := used_set (f' := ⟨e.f.nm, [], 0⟩) hfi
        have h6 := H1.out.good.used
        have h7 := H1.out.good.room
        simp only [List.length_nil] at h5
        omega
      obtain ⟨keep, hkk, hkb⟩ := told_nat ks i HK1.out
      obtain ⟨tear, htt, htb⟩ := told_nat ts i HK2.out
      have HK := Lib.hid hkk
      have HT := Lib.hid htt
      have HfD := Lib.hid hfD
      have Hfi := Lib.hid hfi
      have hsz := Lib.hid (show w3.heap.size = wr.heap.size + 1 by rw [hw3]; simp)
      clear hw3 hb3 hC3 kept hfi hfD hkk htt z0 z1 z2
      clear he
      go_upto_region 4 with fail
      rw [← Hw3.out]
      clear Hw3 y0 y1 y2 hc0
      --@region 37 4 cra4.spec
      refine wp_region_tail 13 (by kernel_rfl) (by kernel_rfl) (by kernel_rfl) ?_
      apply RunT.pure
      · intro vs w hb hd; clear hd; simp only [List.take, putL, Act.put, List.setIfInBounds_toArray, List.set_cons_zero, List.set_cons_succ]; unfold StepOK; go_simp; exact ⟨Below.refl _ _, isV_mk _ _⟩
      apply RunT.pure
      · intro vs w hb hd; have d0 : isV _ (vs 0) w := hd 0 (by decide) (by kernel_rfl); unfold isV at d0; clear hd; simp only [List.take, putL, Act.put, List.setIfInBounds_toArray, List.set_cons_zero, List.set_cons_succ]; unfold StepOK; go_simp; exact ⟨Below.refl _ _, isV_mk _ _⟩
      apply RunT.pure
      · intro vs w hb hd; have d1 : isV _ (vs 1) w := hd 1 (by decide) (by kernel_rfl); unfold isV at d1; clear hd; simp only [List.take, putL, Act.put, List.setIfInBounds_toArray, List.set_cons_zero, List.set_cons_succ]; unfold StepOK; go_simp; exact ⟨Below.refl _ _, isV_mk _ _⟩
      apply RunT.pure
      · intro vs w hb hd; have d2 : isV _ (vs 2) w := hd 2 (by decide) (by kernel_rfl); unfold isV at d2; clear hd; have hx1 := (H1.out.below hb).cell.1; rw [HL.out] at hx1; simp only [List.take, putL, Act.put, List.setIfInBounds_toArray, List.set_cons_zero, List.set_cons_succ]; unfold StepOK; go_simp; exact ⟨Below.refl _ _, isV_mk _ _⟩
      apply RunT.pure
      · intro vs w hb hd; clear hd; simp only [List.take, putL, Act.put, List.setIfInBounds_toArray, List.set_cons_zero, List.set_cons_succ]; unfold StepOK; go_simp; exact ⟨Below.refl _ _, isV_mk _ _⟩
      apply RunT.pure
      · intro vs w hb hd; clear hd; have hx1 := cellB hb Z0.out; have hx2 := cellB hb Z1.out; have hx3 := cellB hb Z2.out; simp only [List.take, putL, Act.put, List.setIfInBounds_toArray, List.set_cons_zero, List.set_cons_succ]; unfold StepOK; go_simp; exact ⟨Below.refl _ _, isV_mk _ _⟩
      apply RunT.pure
      · intro vs w hb hd; clear hd; simp only [List.take, putL, Act.put, List.setIfInBounds_toArray, List.set_cons_zero, List.set_cons_succ]; unfold StepOK; go_simp; exact ⟨Below.refl _ _, isV_mk _ _⟩
      apply RunT.pure
      · intro vs w hb hd; clear hd; simp only [List.take, putL, Act.put, List.setIfInBounds_toArray, List.set_cons_zero, List.set_cons_succ]; unfold StepOK; go_simp; exact ⟨Below.refl _ _, isV_mk _ _⟩
      refine RunT.such (isV (.int .i64 (keep : Int))) (isV_stable _) ?_ ?_
      · intro vs w hb hd; have d6 : isV _ (vs 6) w := hd 6 (by decide) (by kernel_rfl); unfold isV at d6; have d7 : isV _ (vs 7) w := hd 7 (by decide) (by kernel_rfl); unfold isV at d7; clear hd; have hs1 := S1.out.below hb; simp only [List.take, putL, Act.put, List.setIfInBounds_toArray, List.set_cons_zero, List.set_cons_succ]; unfold StepOK; go_simp; exact ⟨Below.refl _ _, such_of_bool ((told_any _ _ _ ks i _ hs1 hn1).mono (fun e w' ⟨h1, h2⟩ => ⟨by rw [h1, HK.out], h2 ▸ Below.refl _ _⟩))⟩
      apply RunT.pure
      · intro vs w hb hd; clear hd; simp only [List.take, putL, Act.put, List.setIfInBounds_toArray, List.set_cons_zero, List.set_cons_succ]; unfold StepOK; go_simp; exact ⟨Below.refl _ _, isV_mk _ _⟩
      apply RunT.pure
      · intro vs w hb hd; clear hd; simp only [List.take, putL, Act.put, List.setIfInBounds_toArray, List.set_cons_zero, List.set_cons_succ]; unfold StepOK; go_simp; exact ⟨Below.refl _ _, isV_mk _ _⟩
      refine RunT.such (isV (.int .i64 (tear : Int))) (isV_stable _) ?_ ?_
      · intro vs w hb hd; have d8 := hd 8 (by decide) (by kernel_rfl); simp only [TR, Nat.reduceAdd, Nat.reduceSub, List.getD_cons_zero, List.getD_cons_succ] at d8; have d9 : isV _ (vs 9) w := hd 9 (by decide) (by kernel_rfl); unfold isV at d9; have d10 : isV _ (vs 10) w := hd 10 (by decide) (by kernel_rfl); unfold isV at d10; clear hd; have hs1 := S2.out.below hb; simp only [List.take, putL, Act.put, List.setIfInBounds_toArray, List.set_cons_zero, List.set_cons_succ]; unfold StepOK; go_simp; exact ⟨Below.refl _ _, such_of_bool ((told_any _ _ _ ts i _ hs1 hn2).mono (fun e w' ⟨h1, h2⟩ => ⟨by rw [h1, HT.out], h2 ▸ Below.refl _ _⟩))⟩
      refine RunT.such (isLf w3.heap.size (leftF e.f keep tear)) (isLf_stable _ _) ?_ ?_
      · intro vs w hb hd; have d5 : isV _ (vs 5) w := hd 5 (by decide) (by kernel_rfl); unfold isV at d5; have d8 := hd 8 (by decide) (by kernel_rfl); simp only [TR, Nat.reduceAdd, Nat.reduceSub, List.getD_cons_zero, List.getD_cons_succ] at d8; have d11 := hd 11 (by decide) (by kernel_rfl); simp only [TR, Nat.reduceAdd, Nat.reduceSub, List.getD_cons_zero, List.getD_cons_succ] at d11; clear hd; unfold isV at d8 d11; have hs1 := Se.out.below hb; simp only [List.take, putL, Act.put, List.setIfInBounds_toArray, List.set_cons_zero, List.set_cons_succ]; unfold StepOK; go_simp; exact ⟨Below.refl _ _, left_such hb.size hs1 hl1 hsf hkb htb⟩
      intro vs w1 hb hd
      have e0 : isV _ (vs 0) w1 := hd 0 (by decide)
      have e1 : isV _ (vs 1) w1 := hd 1 (by decide)
      have e2 : isV _ (vs 2) w1 := hd 2 (by decide)
      have e3 : isV _ (vs 3) w1 := hd 3 (by decide)
      have e4 : isV _ (vs 4) w1 := hd 4 (by decide)
      have e5 : isV _ (vs 5) w1 := hd 5 (by decide)
      have e6 : isV _ (vs 6) w1 := hd 6 (by decide)
      have e7 : isV _ (vs 7) w1 := hd 7 (by decide)
      have e8 := hd 8 (by decide); simp only [TR, Nat.reduceAdd, Nat.reduceSub, List.getD_cons_zero, List.getD_cons_succ] at e8
      have e9 : isV _ (vs 9) w1 := hd 9 (by decide)
      have e10 : isV _ (vs 10) w1 := hd 10 (by decide)
      have e11 := hd 11 (by decide); simp only [TR, Nat.reduceAdd, Nat.reduceSub, List.getD_cons_zero, List.getD_cons_succ] at e11
      have e12 := hd 12 (by decide); simp only [TR, Nat.reduceAdd, Nat.reduceSub, List.getD_cons_zero, List.getD_cons_succ] at e12
      clear hd
      unfold isV at e0 e1 e2 e3 e4 e5 e6 e7 e9 e10
      simp only [List.drop_succ_cons, List.drop_zero, List.take_succ_cons, List.take_zero]
      simp only [putL, Act.put, List.setIfInBounds_toArray, List.set_cons_zero, List.set_cons_succ, e0, e1, e2, e3, e4, e5, e6, e7, e9, e10]
      clear e0 e1 e2 e3 e4 e5 e6 e7 e9 e10
      --@end
      obtain ⟨A', c', e12', o12⟩ := isLf_elim e12
      have H4 := Lib.hid (H1.out.below hb)
      obtain ⟨y0, y1, y2⟩ := slFE_three H4.out.row.sl HE.out
      rw [add_plain] at y0 y1 y2
      simp only [] at y1 y2
      simp only [Nat.reduceAdd, e12']
      have st1 := World.ownsRow.stored H4.out.row (i * 3) (.string (bstr (leftF e.f keep tear).nm))
      have st2 := World.ownsRow.stored st1.1 (i * 3 + 1) (.slice A' (leftF e.f keep tear).b.length c')
      have st3 := World.ownsRow.stored st2.1 (i * 3 + 2) (.int .i64 (leftF e.f keep tear).safe)
      have u0 := World.ownsRow.frozenAt H4.out.row (i * 3)
      have u1 := World.ownsRow.frozenAt st1.1 (i * 3 + 1)
      have u2 := World.ownsRow.frozenAt st2.1 (i * 3 + 2)
      have u3 := World.ownsRow.frozenAt H4.out.row (i * 3 + 1)
      have u4 := World.ownsRow.frozenAt H4.out.row (i * 3 + 2)
      have Hst := Lib.hid (And.intro st3.1 (st1.2.trans (st2.2.trans st3.2)))
      have Ho12 := Lib.hid o12
      have HB4 := Lib.hid hb
      clear st1 st2 st3 o12 hb e12 e12'
      have Hsf := Lib.hid hsf
      have Hl := Lib.hid (left_le e.f keep tear hsf)
      clear hsf hl1
      have hrow : ∀ w5, Own base 117 3 w5 (some ⟨g, 0, none⟩) ei.length c ((((flatFE ei).set (i * 3) (.string (bstr (leftF e.f keep tear).nm))).set (i * 3 + 1) (.slice A' (leftF e.f keep tear).b.length c')).set (i * 3 + 2) (.int .i64 (leftF e.f keep tear).safe)) → w1.grownBy w5 (some g) →
          ∃ F', DI w5 base p (mixD D ks ts (i + 1)) F' (some ⟨g, 0, none⟩) c (ei.set i ⟨leftF e.f keep tear, A', c'⟩) ∧ Cg F F' W w5 := by
        intro w5 ho hg
        have hf3 := flat_set3 HE.out ⟨leftF e.f keep tear, A', c'⟩
        simp only at hf3
        rw [hf3] at ho
        obtain ⟨F', k1, k2⟩ := H4.out.newfile HE.out Ho12.out (fun q hq => (H1.out.bound q hq).2) (by have := H1.out.plt; omega) hg ho (H4.out.good.setF Hfi.out (left_nm _ _ _) Hl.out.1 (by rw [Hl.out.2]; exact Nat.le_refl _))
        have hms : ({ mixD D ks ts i with fs := (mixD D ks ts i).fs.set i (leftF e.f keep tear) } : Dk) = mixD D ks ts (i + 1) := by
          unfold mixD
          rw [mix_succ HfD.out, HK.out, HT.out]
        rw [hms] at k1
        refine ⟨F', k1, ?_⟩
        have hc := HC3.out.trans ((Cg.below HB4.out).trans (Cg.grown hg (H4.out.fr _ rfl).1))
        refine ⟨hc.os, hc.tape, hc.output, hc.size, hc.block, fun q hq => ?_⟩
        rcases k2 q hq with h5 | h5
        · exact HC3.out.new q h5
        · exact .inr (Nat.le_trans HC3.out.size h5)
      have Hrow := Lib.hid hrow
      clear hrow
      go_wp2_with fail
      all_goals (obtain ⟨F', k1, k2⟩ := Hrow.out _ Hst.out.1 Hst.out.2)
      refine ⟨⟨i + 1, F', _, by omega, by go_num, Lib.hid k1, Lib.hid k2, Lib.hid (by rw [List.length_set]; exact HL.out)⟩, by simp [intOf]; omega⟩
    · obtain rfl : i = es.length := by omega
      have H5 := HI.out
      have hmx : mixD D ks ts es.length = { D with fs := crashF D.fs ks ts } := by unfold mixD; rw [hes.out, mix_all]
      rw [hmx] at H5
      obtain ⟨c0, c1, c2, c3, c4⟩ := H5.cell
      have y2 := World.ownsRow.frozenAt H5.own 2
      have y3 := World.ownsRow.frozenAt H5.own 3
      have st1 := World.ownsRow.stored H5.own 2 (.int .i64 (-1))
      have st2 := World.ownsRow.stored st1.1 3 (.bool false)
      have z3 := World.ownsRow.frozenAt st1.1 3
      have hgd : Good (crashD D ks ts) := ⟨H5.good.srt, H5.good.room, by unfold crashD; simp, H5.good.few, H5.good.safe, H5.good.used, H5.good.nms⟩
      have hfin := Lib.hid (And.intro (H5.turn (D' := crashD D ks ts) hgd rfl st2.1 (st1.2.trans st2.2)) (HC.out.trans (Cg.grown (st1.2.trans st2.2) H5.fp)))
      clear st1 st2 H5 hmx hgd c0 c4
      go_wp2_with fail
      go_end0
      exact ⟨rfl, Fi, ⟨_, _, _, hfin.out.1⟩, hfin.out.2⟩
end
end Go.Proofs.Ytemegkapmgcffaa
