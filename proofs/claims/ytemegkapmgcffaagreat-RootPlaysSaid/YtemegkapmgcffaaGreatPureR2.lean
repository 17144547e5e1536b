import Derived.Test.YtemegkapmgcffaaGreatR2C
/- The document's disk: put, plain. -/
namespace Go.Proofs.YtemegkapmgcffaaGreat
open Go.RowKit
set_option linter.unusedSimpArgs false
set_option linter.unusedVariables false

def lowF (fn other : Nm) (f : Fl) : Bool := !(f.nm == fn) && (!(f.nm == other) && Op.bytesLess f.nm fn)
def highF (fn other : Nm) (f : Fl) : Bool := !(f.nm == fn) && (!(f.nm == other) && !Op.bytesLess f.nm fn)
def putF (fs : List Fl) (g : Fl) (other : Nm) : List Fl := fs.filter (lowF g.nm other) ++ g :: fs.filter (highF g.nm other)
theorem putE_map (es : List FE) (g : FE) (other : Nm) : (putE es g other).map FE.f = putF (es.map FE.f) g.f other := by
  unfold putE putF
  rw [List.map_append, List.map_cons, List.filter_map, List.filter_map]
  rfl
theorem less_ne {a b : Nm} (h : Op.bytesLess a b = true) : a ≠ b := fun e => by
  rw [e, bl_irrefl] at h
  cases h
section
variable {fs : List Fl} {nm : Nm}
theorem take_low (x : Fl) (hx : x ∈ fs.take (posF fs nm)) : Op.bytesLess x.nm nm = true := by
  obtain ⟨j, hj, rfl⟩ := List.getElem_of_mem hx
  rw [List.length_take] at hj
  refine posF_low (fs := fs) (nm := nm) (j := j) (by omega) ?_
  rw [List.getElem_take]
  exact List.getElem?_eq_getElem (by omega)
theorem drop_high (hs : SrtF fs) (x : Fl) (hx : x ∈ fs.drop (posF fs nm)) : Op.bytesLess x.nm nm = false := by
  obtain ⟨j, hj, rfl⟩ := List.getElem_of_mem hx
  rw [List.length_drop] at hj
  rw [List.getElem_drop]
  have h0 : fs[posF fs nm]? = some (fs[posF fs nm]'(by omega)) := List.getElem?_eq_getElem (by omega)
  have h1 := posF_at h0
  rcases Nat.eq_zero_or_pos j with rfl | hj0
  · simpa using h1
  · have h2 := hs (posF fs nm) (posF fs nm + j) _ _ (by omega) h0 (List.getElem?_eq_getElem (by omega))
    cases hb : Op.bytesLess (fs[posF fs nm + j]'(by omega)).nm nm with
    | false => rfl
    | true =>
      have := bl_trans h2 hb
      rw [this] at h1
      cases h1
theorem drop_more (hs : SrtF fs) {f : Fl} (hf : fs[posF fs nm]? = some f) (hn : f.nm = nm) (x : Fl) (hx : x ∈ fs.drop (posF fs nm + 1)) : x.nm ≠ nm := by
  obtain ⟨j, hj, rfl⟩ := List.getElem_of_mem hx
  rw [List.length_drop] at hj
  rw [List.getElem_drop]
  have h2 := hs (posF fs nm) (posF fs nm + 1 + j) _ _ (by omega) hf (List.getElem?_eq_getElem (by omega))
  rw [hn] at h2
  exact fun e => less_ne h2 e.symm
theorem low_take (hs : SrtF fs) : fs.filter (lowF nm nm) = fs.take (posF fs nm) := by
  conv => lhs; rw [← List.take_append_drop (posF fs nm) fs]
  rw [List.filter_append]
  have h1 : (fs.take (posF fs nm)).filter (lowF nm nm) = fs.take (posF fs nm) := List.filter_eq_self.2 fun x hx => by
    have h := take_low x hx
    have hne := less_ne h
    simp [lowF, h, hne]
  have h2 : (fs.drop (posF fs nm)).filter (lowF nm nm) = [] := List.filter_eq_nil_iff.2 fun x hx => by
    have h := drop_high hs x hx
    simp [lowF, h]
  rw [h1, h2, List.append_nil]
theorem high_there (hs : SrtF fs) (ht : thereF fs nm = true) : fs.filter (highF nm nm) = fs.drop (posF fs nm + 1) := by
  obtain ⟨f, hf, hn⟩ := there_true ht
  have hlt := (List.getElem?_eq_some_iff.1 hf).1
  conv => lhs; rw [← List.take_append_drop (posF fs nm) fs]
  rw [List.filter_append]
  have h1 : (fs.take (posF fs nm)).filter (highF nm nm) = [] := List.filter_eq_nil_iff.2 fun x hx => by
    have h := take_low x hx
    simp [highF, h]
  have h2 : (fs.drop (posF fs nm)).filter (highF nm nm) = fs.drop (posF fs nm + 1) := by
    rw [List.drop_eq_getElem_cons hlt, List.filter_cons]
    have he : (fs[posF fs nm]'hlt).nm = nm := by
      rw [List.getElem?_eq_getElem hlt] at hf
      cases hf
      exact hn
    rw [if_neg (by simp [highF, he])]
    exact List.filter_eq_self.2 fun x hx => by
      have h := drop_more hs hf hn x hx
      have h3 := drop_high hs x (List.mem_of_mem_drop (i := 1) (by rw [List.drop_drop]; exact hx))
      simp [highF, h, h3]
  rw [h1, h2, List.nil_append]
theorem high_not (hs : SrtF fs) (ht : thereF fs nm = false) : fs.filter (highF nm nm) = fs.drop (posF fs nm) := by
  conv => lhs; rw [← List.take_append_drop (posF fs nm) fs]
  rw [List.filter_append]
  have h1 : (fs.take (posF fs nm)).filter (highF nm nm) = [] := List.filter_eq_nil_iff.2 fun x hx => by
    have h := take_low x hx
    simp [highF, h]
  have h2 : (fs.drop (posF fs nm)).filter (highF nm nm) = fs.drop (posF fs nm) := List.filter_eq_self.2 fun x hx => by
    have h := there_not hs ht x (List.mem_of_mem_drop hx)
    have h3 := drop_high hs x hx
    simp [highF, h, h3]
  rw [h1, h2, List.nil_append]
theorem putF_set (hs : SrtF fs) (ht : thereF fs nm = true) (g : Fl) (hg : g.nm = nm) : putF fs g nm = fs.set (posF fs nm) g := by
  obtain ⟨f, hf, hn⟩ := there_true ht
  have hlt := (List.getElem?_eq_some_iff.1 hf).1
  unfold putF
  rw [hg, low_take hs, high_there hs ht, List.set_eq_take_append_cons_drop, if_pos hlt]
theorem putF_ins (hs : SrtF fs) (ht : thereF fs nm = false) (g : Fl) (hg : g.nm = nm) : putF fs g nm = insF fs (posF fs nm) g := by
  unfold putF insF
  rw [hg, low_take hs, high_not hs ht]
theorem erase_filter (hs : SrtF fs) {i : Nat} {f : Fl} (hf : fs[i]? = some f) (p : Fl → Bool) : (fs.eraseIdx i).filter p = fs.filter (fun x => !(x.nm == f.nm) && p x) := by
  have hlt := (List.getElem?_eq_some_iff.1 hf).1
  rw [List.eraseIdx_eq_take_drop_succ]
  conv => rhs; rw [← List.take_append_drop i fs]
  rw [List.filter_append, List.filter_append, List.drop_eq_getElem_cons hlt, List.filter_cons]
  have he : fs[i]'hlt = f := by
    rw [List.getElem?_eq_getElem hlt] at hf
    exact Option.some.inj hf
  rw [he, if_neg (by simp)]
  congr 1
  · refine List.filter_congr fun x hx => ?_
    obtain ⟨j, hj, rfl⟩ := List.getElem_of_mem hx
    rw [List.length_take] at hj
    have h2 := hs j i _ f (by omega) (List.getElem?_eq_getElem (by omega)) hf
    rw [List.getElem_take]
    have hne := less_ne h2
    simp [hne]
  · refine List.filter_congr fun x hx => ?_
    obtain ⟨j, hj, rfl⟩ := List.getElem_of_mem hx
    rw [List.length_drop] at hj
    have h2 := hs i (i + 1 + j) f _ (by omega) hf (List.getElem?_eq_getElem (by omega))
    rw [List.getElem_drop]
    have hne := less_ne h2
    simp [Ne.symm hne]
theorem putF_move (hs : SrtF fs) {i : Nat} {f : Fl} (hf : fs[i]? = some f) (hse : SrtF (fs.eraseIdx i)) (tn : Nm) : putF fs ⟨tn, f.b, f.safe⟩ f.nm = moveF fs i f tn := by
  have h1 : putF fs ⟨tn, f.b, f.safe⟩ f.nm = putF (fs.eraseIdx i) ⟨tn, f.b, f.safe⟩ tn := by
    unfold putF
    rw [erase_filter hs hf, erase_filter hs hf]
    have e1 : ∀ x : Fl, lowF tn f.nm x = (!(x.nm == f.nm) && lowF tn tn x) := fun x => by
      unfold lowF
      cases x.nm == tn <;> cases x.nm == f.nm <;> simp
    have e2 : ∀ x : Fl, highF tn f.nm x = (!(x.nm == f.nm) && highF tn tn x) := fun x => by
      unfold highF
      cases x.nm == tn <;> cases x.nm == f.nm <;> simp
    simp only
    rw [show lowF tn f.nm = fun x => (!(x.nm == f.nm) && lowF tn tn x) from funext e1, show highF tn f.nm = fun x => (!(x.nm == f.nm) && highF tn tn x) from funext e2]
  rw [h1]
  unfold moveF
  cases ht : thereF (fs.eraseIdx i) tn with
  | true => rw [if_pos rfl]; exact putF_set hse ht _ rfl
  | false => rw [if_neg (by simp)]; exact putF_ins hse ht _ rfl
end
end Go.Proofs.YtemegkapmgcffaaGreat
