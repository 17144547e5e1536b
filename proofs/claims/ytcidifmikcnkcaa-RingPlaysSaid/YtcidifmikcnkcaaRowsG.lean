import Derived.WalkKit
import Derived.ProofKit
import Derived.OpenShut
import Derived.ShutString
import Derived.ChangeOld
import Derived.Test.YtcidifmikcnkcaaLibN
import Derived.Deep.Slices
/- Slices of structs that came in. -/
namespace Go.Proofs.Ytcidifmikcnkcaa
open Go.RowKit Go.ChangeShapes Go.WideShapes

theorem flatMap_inv {α : Type} (f : α → List Value) (s : Nat) (hs : 0 < s) (hf : ∀ x, (f x).length = s) (es : List α) (j : Nat) (u : Value) (h : (es.flatMap f)[j]? = some u) : ∃ e, es[j / s]? = some e ∧ (f e)[j % s]? = some u := by
  have hj := (List.getElem?_eq_some_iff.1 h).1
  rw [flatMap_len f s hf] at hj
  have hk : j / s < es.length := Nat.div_lt_of_lt_mul (by rw [Nat.mul_comm]; exact hj)
  have hm : j % s < s := Nat.mod_lt _ hs
  have he : es[j / s]? = some es[j / s] := List.getElem?_eq_getElem hk
  have hv : (f es[j / s])[j % s]? = some ((f es[j / s])[j % s]'(by rw [hf]; exact hm)) := List.getElem?_eq_getElem _
  have h2 := flatMap_get f s hf he hv
  rw [Nat.div_add_mod' j s, h] at h2
  exact ⟨_, he, by rw [hv, ← h2]⟩
theorem rows_open {α H : Type} [Inhabited α] {enc : TypeId × Value → H} {w : World} {fuel : Nat} {v : Value} {x : DataW H × List MemPlace} (tS tE : TypeId) (sz : Nat) (hsz : 0 < sz) (hu : Try.prog.underlying tS = some (.slice tE)) (hc : Try.prog.cellsOf tE = sz) (f : α → List Value) (hf : ∀ e, (f e).length = sz) (P : α → Prop)
    (each : ∀ {fuel : Nat} {cs : List Value} {x : DataW H × List MemPlace}, cs.length = sz → DataW.trod enc Try.prog w 0 (fun _ => true) true fuel tE cs = some x → ∃ e, P e ∧ cs = f e)
    (h : DataW.trod enc Try.prog w 0 (fun _ => true) true fuel tS [v] = some x) : ∃ a n c, v = .slice a n c ∧ n ≤ 9223372036854775807 ∧ c ≤ 9223372036854775807 ∧ ∃ es : List α, (∀ e, e ∈ es → P e) ∧ Sl w sz a n c (es.flatMap f) := by
  rcases Go.Deep.open_slice hu h with ⟨hcs, _⟩ | ⟨ad, len, cap, m, nf, D, Pl, hcs, _, hl, hm, hmm, _, hx⟩
  · simp only [List.cons.injEq, and_true] at hcs
    exact ⟨none, 0, 0, hcs, Nat.zero_le _, Nat.zero_le _, [], (fun e he => absurd he (by simp)), Sl.nil w sz⟩
  · simp only [List.cons.injEq, and_true] at hcs
    refine ⟨some ad, len, cap, hcs, by unfold maxLen at hm; omega, by unfold maxLen at hm; omega, ?_⟩
    rw [hc] at hx
    simp only [if_true] at hmm
    have each2 : ∀ i, i < len → ∃ e : α, P e ∧ ∀ j u, (f e)[j]? = some u → w.cell? (ad.add (i * sz + j)) = some u := by
      intro i hi
      obtain ⟨cs', h1, h2⟩ := hx i (by omega)
      obtain ⟨_, hlen, hat⟩ := World.cells?_some h1
      obtain ⟨e, hp, rfl⟩ := each hlen h2
      refine ⟨e, hp, fun j u hj => ?_⟩
      have hjl : j < sz := by have := (List.getElem?_eq_some_iff.1 hj).1; rwa [hf] at this
      rw [← addr_add_add, hat j hjl, hj]
    obtain ⟨y, hy⟩ := Go.Deep.choose_lt each2
    refine ⟨(List.range len).map y, fun e he => ?_, ⟨fun j u hj => ⟨ad, rfl, ?_⟩, by rw [flatMap_len f sz hf]; simp, hl, fun h => by cases h⟩⟩
    · simp only [List.mem_map, List.mem_range] at he
      obtain ⟨i, hi, rfl⟩ := he
      exact (hy i hi).1
    · obtain ⟨e, he, hu⟩ := flatMap_inv f sz hsz hf _ j u hj
      rw [List.getElem?_map] at he
      by_cases hjn : j / sz < len
      · rw [List.getElem?_range hjn] at he
        simp only [Option.map_some, Option.some.injEq] at he
        subst he
        have := (hy (j / sz) hjn).2 (j % sz) u hu
        rwa [Nat.div_add_mod' j sz] at this
      · rw [List.getElem?_eq_none (by simp; omega)] at he; simp at he
theorem trod_arr2 {H : Type} {enc : TypeId × Value → H} {P : Program} {w : World} {base : Nat} {spare : Nat → Bool} {held : Bool} {t e : TypeId} {fuel : Nat} {c0 c1 : Value} {x : DataW H × List MemPlace} (ht : P.underlying t = some (.array 2 e)) (hce : P.cellsOf e = 1)
    (h : DataW.trod enc P w base spare held fuel t [c0, c1] = some x) :
    ∃ y0 y1 n, x = (.agg [y0.1, y1.1], y0.2 ++ y1.2) ∧ DataW.trod enc P w base spare held n e [c0] = some y0 ∧ DataW.trod enc P w base spare held n e [c1] = some y1 := by
  cases fuel with
  | zero => simp [DataW.trod] at h
  | succ n =>
    unfold DataW.trod at h
    rw [ht] at h
    have r2 : List.range 2 = [0, 1] := rfl
    simp [r2, hce] at h
    obtain ⟨_, h⟩ := h
    cases h0 : DataW.trod enc P w base spare held n e [c0] with
    | none => simp [h0] at h
    | some y0 =>
      cases h1 : DataW.trod enc P w base spare held n e [c1] with
      | none => simp [h0, h1] at h
      | some y1 =>
        simp [h0, h1] at h
        exact ⟨y0, y1, n, h.symm, h0, h1⟩
theorem int_range {x : Int} (w : (Lit.int .i64 x).wf = true) : -9223372036854775808 ≤ x ∧ x ≤ 9223372036854775807 := by
  simp [Lit.wf, IntKind.min, IntKind.max, IntKind.signed, IntKind.bits] at w
  omega
end Go.Proofs.Ytcidifmikcnkcaa
