import Derived.Test.YtphjmbhlokkdiaaPureRound
import Derived.Test.YtphjmbhlokkdiaaRelF
import Derived.Test.YtphjmbhlokkdiaaApart
namespace Go.Proofs.Ytphjmbhlokkdiaa
open Go.RowKit Go.Maps Go.WideShapes Go.WideMaps
set_option linter.unusedSimpArgs false
set_option linter.unusedVariables false

def names5 : List (List UInt8) := [[97], [98], [99], [100], [101]]
def nmAt (k : Nat) : List UInt8 := names5.getD k []
def namesV : List Value := names5.map fun s => .string (bstr s)
theorem names_any (w : World) : Calls Try.prog 21 #[] w fun e w' => e = .returned (.slice (some ⟨w.heap.size, 0, none⟩) 5 5) ∧ Sl w' 1 (some ⟨w.heap.size, 0, none⟩) 5 5 namesV ∧ Below w.heap.size w w' := by
  have b1 := below_alloc1 w (.cells namesV.toArray 9)
  have s1 : Sl (w.alloc (.cells namesV.toArray 9)) 1 (some ⟨w.heap.size, 0, none⟩) 5 5 namesV := ⟨(sl_cells w namesV 9).cells, rfl, Nat.le_refl _, fun h => by cases h⟩
  go_enter Try.func21, Try.ntmps21
  go_wp2_with fail
  go_ret
  exact ⟨rfl, s1, b1⟩
def isNm : Value → World → Prop := fun v w => ∃ A, v = .slice A 5 5 ∧ Sl w 1 A 5 5 namesV
theorem isNm_elim {v : Value} {w : World} (h : isNm v w) : ∃ A, v = .slice A 5 5 ∧ Sl w 1 A 5 5 namesV := h
theorem names_such (w : World) : Calls Try.prog 21 #[] w fun e w' => ∃ v, e = .returned v ∧ Below w.heap.size w w' ∧ isNm v w' :=
  (names_any w).mono fun e w' ⟨h1, h2, h3⟩ => ⟨_, h1, h3, _, rfl, h2⟩
theorem RF.nm {B : Nat} {w w' : World} (h : RF B w w') {A : Option Addr} (hs : Sl w 1 A 5 5 namesV) : Sl w' 1 A 5 5 namesV := by
  refine hs.block (fun ad ha hlt => ?_)
  subst ha
  obtain ⟨a, h1, h2⟩ := hs.cells 0 (.string (bstr [97])) rfl
  cases h1
  have := h.keep h2
  simpa [Addr.add] using this
theorem isNm_stableR (B : Nat) : StableR (RF B) isNm := fun _ _ _ hr ⟨A, h1, h2⟩ => ⟨A, h1, hr.nm h2⟩
theorem nm_at {w : World} {A : Option Addr} (hs : Sl w 1 A 5 5 namesV) {k : Nat} (hk : k < 5) : ∃ ad, A = some ad ∧ w.cell? (ad.add k) = some (.string (bstr (nmAt k))) := by
  refine hs.cells k _ ?_
  match k, hk with
  | 0, _ => rfl
  | 1, _ => rfl
  | 2, _ => rfl
  | 3, _ => rfl
  | 4, _ => rfl
def isNmAt (k : Nat) : Value → World → Prop := fun v w => ∃ a, v = .pointer (some a) ∧ w.cell? a = some (.string (bstr (nmAt k)))
theorem isNmAt_elim {k : Nat} {v : Value} {w : World} (h : isNmAt k v w) : ∃ a, v = .pointer (some a) ∧ w.cell? a = some (.string (bstr (nmAt k))) := h
theorem isNmAt_stableR (B k : Nat) : StableR (RF B) (isNmAt k) := fun _ _ _ hr ⟨a, h1, h2⟩ => ⟨a, h1, (World.cell?_of_block (hr.keep h2)).trans h2⟩
theorem addT_ne (ts : List Tn) (s : List UInt8) (W : Int) : addT ts s W ≠ [] := by simp [addT]
theorem isNm_stable : Stable isNm := fun _ _ _ hb ⟨A, h1, h2⟩ => ⟨A, h1, h2.below hb⟩
theorem isNmAt_stable (k : Nat) : Stable (isNmAt k) := fun _ _ _ hb ⟨a, h1, h2⟩ => ⟨a, h1, hb.cell (World.block_lt_of_cell? _ _ h2) ▸ h2⟩
def isSet (B : Nat) (ts : List Tn) (s : List UInt8) (W : Int) : Value → World → Prop := fun v w => ∃ A c, v = .tuple #[.agg #[.int .i64 1000, .slice A (addT ts s W).length c, .int .i64 0, .bool false], .int .i64 0] ∧ Sl w 3 A (addT ts s W).length c (flatT (addT ts s W)) ∧ ∀ a, A = some a → B ≤ a.block
theorem isSet_elim {B : Nat} {ts : List Tn} {s : List UInt8} {W : Int} {v : Value} {w : World} (h : isSet B ts s W v w) : ∃ A c, v = .tuple #[.agg #[.int .i64 1000, .slice A (addT ts s W).length c, .int .i64 0, .bool false], .int .i64 0] ∧ Sl w 3 A (addT ts s W).length c (flatT (addT ts s W)) ∧ ∀ a, A = some a → B ≤ a.block := h
theorem isSet_stableR (B B' : Nat) (ts : List Tn) (s : List UInt8) (W : Int) : StableR (RF B) (isSet B' ts s W) := fun _ _ _ hr ⟨A, c, h1, h2, h3⟩ => ⟨A, c, h1, hr.sl h2 (addT_ne _ _ _), h3⟩
def isFrV (B : Nat) (ts : List Tn) (s : List UInt8) (W : Int) : Value → World → Prop := fun v w => ∃ A c, v = .agg #[.int .i64 1000, .slice A (addT ts s W).length c, .int .i64 0, .bool false] ∧ Sl w 3 A (addT ts s W).length c (flatT (addT ts s W)) ∧ ∀ a, A = some a → B ≤ a.block
theorem isFrV_elim {B : Nat} {ts : List Tn} {s : List UInt8} {W : Int} {v : Value} {w : World} (h : isFrV B ts s W v w) : ∃ A c, v = .agg #[.int .i64 1000, .slice A (addT ts s W).length c, .int .i64 0, .bool false] ∧ Sl w 3 A (addT ts s W).length c (flatT (addT ts s W)) ∧ ∀ a, A = some a → B ≤ a.block := h
theorem isFrV_stableR (B B' : Nat) (ts : List Tn) (s : List UInt8) (W : Int) : StableR (RF B) (isFrV B' ts s W) := fun _ _ _ hr ⟨A, c, h1, h2, h3⟩ => ⟨A, c, h1, hr.sl h2 (addT_ne _ _ _), h3⟩
def JnewZ (B : Nat) (v : Value) (w : World) : Prop := ∃ g, v = .pointer (some ⟨g, 0, none⟩) ∧ B ≤ g ∧ Own B 36 1 w (some ⟨g, 0, none⟩) 4 4 frZ ∧ zeroF w g
theorem zeroF_below {w w' : World} {g : Nat} (h : zeroF w g) (hb : Below w.heap.size w w') (hg : g < w.heap.size) : zeroF w' g := fun x v hx hv => h x v hx (by rw [← World.cell?_of_block (w := w) (w' := w') (by rw [hx]; exact hb.block g hg)]; exact hv)
theorem JnewZ_stable (B : Nat) : Stable (JnewZ B) := fun _ _ _ hb ⟨g, e, h1, h2, h3⟩ => ⟨g, e, h1, h2.below hb, zeroF_below h3 hb (World.ownsRow.lt h2 g rfl).2⟩
def JF2 (B : Nat) (ts : List Tn) (s : List UInt8) (W : Int) (v : Value) (w : World) : Prop := ∃ (g : Nat) (A : Option Addr) (c : Nat), v = .pointer (some ⟨g, 0, none⟩) ∧ B ≤ g ∧ Own B 36 1 w (some ⟨g, 0, none⟩) 4 4 [.int .i64 1000, .slice A (addT ts s W).length c, .int .i64 0, .bool false] ∧ Sl w 3 A (addT ts s W).length c (flatT (addT ts s W)) ∧ ∀ a, A = some a → B ≤ a.block
theorem JF2_stable (B : Nat) (ts : List Tn) (s : List UInt8) (W : Int) : Stable (JF2 B ts s W) := fun _ _ _ hb ⟨g, A, c, e, h1, h2, h3, h4⟩ => ⟨g, A, c, e, h1, h2.below hb, h3.below hb, h4⟩
theorem RF.bel {B : Nat} {w w' : World} (h : RF B w w') (hB : w.heap.size ≤ B) : Below w.heap.size w w' :=
  ⟨h.os, h.tape, h.output, h.size, fun i hi => by
    rcases h.block i hi with h1 | ⟨h1, _⟩
    · exact h1
    · omega⟩
theorem RF.own {B : Nat} {w w' : World} (h : RF B w w') (hB : w.heap.size ≤ B) {base size n c : Nat} {e : TypeId} {A : Option Addr} {cs : List Value} (o : Own base e size w A n c cs) : Own base e size w' A n c cs := o.below (h.bel hB)
theorem RF.slA {B : Nat} {w w' : World} (h : RF B w w') (hB : w.heap.size ≤ B) {size n c : Nat} {A : Option Addr} {cs : List Value} (o : Sl w size A n c cs) : Sl w' size A n c cs := o.below (h.bel hB)
theorem fset_such {B : Nat} (ts : List Tn) (s : List UInt8) (W : Int) (A : Option Addr) (c : Nat) {w : World} (hB : B ≤ w.heap.size) (hT : Sl w 3 A ts.length c (flatT ts)) (h : rightF ⟨1000, ts, 0, false⟩ = true ∧ namedB s = true ∧ 1 ≤ W ∧ W ≤ 100 ∧ placeI ts s = -1 ∧ ts.length < 20) :
    Calls Try.prog 20 #[.agg #[.int .i64 1000, .slice A ts.length c, .int .i64 0, .bool false], .string (bstr s), .int .i64 W] w fun e w' => ∃ v, e = .returned v ∧ Below w.heap.size w w' ∧ isSet B ts s W v w' :=
  (fset_any ⟨1000, ts, 0, false⟩ s W A c w hT h.1 h.2.1 h.2.2.1 h.2.2.2.1 h.2.2.2.2.1 h.2.2.2.2.2).mono fun e w' ⟨A', c', h1, h2, h3, h4⟩ => ⟨_, h1, h3, A', c', rfl, h2, fun a ha => Nat.le_trans hB (h4 a ha)⟩

/-- the queues that have been set -/
structure SetSt (k : Nat) (ts : List Tn) : Prop where
  len : ts.length = k
  names : ts.map Tn.N = names5.take k
  ok : ∀ t, t ∈ ts → 1 ≤ t.W ∧ t.W ≤ 100 ∧ t.L = 0
theorem SetSt.right {k : Nat} {ts : List Tn} (h : SetSt k ts) (hk : k ≤ 5) : rightF ⟨1000, ts, 0, false⟩ = true := by
  by_cases h0 : ts = []
  · subst h0; decide
  · have hp : 0 < ts.length := List.length_pos_iff.2 h0
    have hnm : ∀ (j : Nat) (q : Tn), ts[j]? = some q → namedB q.N = true := by
      intro j q hq
      have hm : q.N ∈ names5.take k := by rw [← h.names]; exact List.mem_map_of_mem (List.mem_of_getElem? hq)
      have := List.mem_of_mem_take hm
      simp [names5] at this
      rcases this with e | e | e | e | e <;> rw [e] <;> decide
    have hg : Gd ⟨1000, ts, 0, false⟩ := by
      refine ⟨by simp, by simp, by simp only; have := h.len; omega, ⟨0, rfl, hp⟩, fun j q hq => ?_, ?_⟩
      · obtain ⟨b1, b2, b3⟩ := h.ok q (List.mem_of_getElem? hq)
        exact okT_iff.2 ⟨hnm j q hq, b1, b2, by omega, by simp [belowF]; omega⟩
      · simp only
        rw [h.names]
        exact List.Nodup.sublist (List.take_sublist _ _) (by decide)
    exact hg.right
theorem SetSt.gd {k : Nat} {ts : List Tn} (h : SetSt k ts) (hk : k ≤ 5) (h1 : 1 ≤ k) : Gd ⟨1000, ts, 0, false⟩ := right_gd (h.right hk) (by simp only; have := h.len; omega)
theorem SetSt.place {k : Nat} {ts : List Tn} (h : SetSt k ts) (hk : k < 5) : placeI ts (nmAt k) = -1 := by
  apply placeI_none
  intro j q hj hq he
  have hm : q.N ∈ names5.take k := by rw [← h.names]; exact List.mem_map_of_mem (List.mem_of_getElem? hq)
  rw [he] at hm
  match k, hk with
  | 0, _ => simp at hm
  | 1, _ => revert hm; decide
  | 2, _ => revert hm; decide
  | 3, _ => revert hm; decide
  | 4, _ => revert hm; decide
theorem SetSt.add {k : Nat} {ts : List Tn} (h : SetSt k ts) (hk : k < 5) {W : Int} (h1 : 1 ≤ W) (h2 : W ≤ 100) : SetSt (k + 1) (addT ts (nmAt k) W) := by
  refine ⟨by rw [addT, List.length_append, h.len]; rfl, ?_, ?_⟩
  · rw [addT, List.map_append, h.names]
    match k, hk with
    | 0, _ => rfl
    | 1, _ => rfl
    | 2, _ => rfl
    | 3, _ => rfl
    | 4, _ => rfl
  · intro t ht
    rw [addT, List.mem_append, List.mem_singleton] at ht
    rcases ht with ht | rfl
    · exact h.ok t ht
    · exact ⟨h1, h2, rfl⟩
theorem nmAt_named {k : Nat} (hk : k < 5) : namedB (nmAt k) = true := by
  match k, hk with
  | 0, _ => rfl
  | 1, _ => rfl
  | 2, _ => rfl
  | 3, _ => rfl
  | 4, _ => rfl

def turnV (n T : Nat) : List Value := (List.range T).map fun j => .string (bstr (nmAt (j % n)))
/-- the turns, and whose turn it was, behind some picks -/
def TurnSt (n T : Nat) (last : List UInt8) (f : Fr) : Prop := (T = 0 ∧ last = [] ∧ f.At = 0 ∧ f.H = false) ∨ (0 < T ∧ last = nmAt ((T - 1) % n) ∧ f.At = (((T - 1) % n : Nat) : Int))
def intsV (l : List Int) : List Value := l.map fun x => .int .i64 x

/-- the heads of the first j queues -/
structure HsOK (j : Nat) (hs : List Hd) : Prop where
  names : hs.map Hd.N = names5.take j
  ok : ∀ h, h ∈ hs → 1 ≤ h.C ∧ h.C ≤ 1000
theorem names5_snoc {k : Nat} (hk : k < 5) : names5.take k ++ [nmAt k] = names5.take (k + 1) := by
  match k, hk with
  | 0, _ => rfl
  | 1, _ => rfl
  | 2, _ => rfl
  | 3, _ => rfl
  | 4, _ => rfl
theorem HsOK.nil : HsOK 0 [] := ⟨rfl, fun h hh => by cases hh⟩
theorem HsOK.add {j : Nat} {hs : List Hd} (h : HsOK j hs) (hj : j < 5) {C : Int} (h1 : 1 ≤ C) (h2 : C ≤ 1000) : HsOK (j + 1) (hs ++ [⟨nmAt j, C⟩]) :=
  ⟨by rw [List.map_append, h.names]; exact names5_snoc hj, fun x hx => by
    rw [List.mem_append, List.mem_singleton] at hx
    rcases hx with hx | rfl
    · exact h.ok x hx
    · exact ⟨h1, h2⟩⟩
theorem HsOK.len {j : Nat} {hs : List Hd} (h : HsOK j hs) (hj : j ≤ 5) : hs.length = j := by
  have := congrArg List.length h.names
  rw [List.length_map, List.length_take] at this
  simp [names5] at this
  omega
theorem names5_short {s : List UInt8} (h : s ∈ names5) : s.length = 1 := by
  simp [names5] at h
  rcases h with rfl | rfl | rfl | rfl | rfl <;> rfl
theorem HsOK.may {n : Nat} {hs : List Hd} (h : HsOK n hs) {ts : List Tn} (ht : ts.map Tn.N = names5.take n) : MayOK ts hs := by
  refine ⟨?_, fun x hx => ?_⟩
  · rw [h.names]
    exact List.Nodup.sublist (List.take_sublist _ _) (by decide)
  · have hm : x.N ∈ names5.take n := by rw [← h.names]; exact List.mem_map_of_mem hx
    have h5 := names5_short (List.mem_of_mem_take hm)
    have := h.ok x hx
    exact ⟨by omega, placeI_mem (by rw [ht]; exact hm), this.1, this.2⟩
theorem costOf_pos {hs : List Hd} (hC : ∀ h, h ∈ hs → 1 ≤ h.C ∧ h.C ≤ 1000) {s : List UInt8} (hm : s ∈ hs.map Hd.N) : costOf hs s ≠ 0 := by
  obtain ⟨x, hx, he⟩ := List.mem_map.1 hm
  unfold costOf
  split
  · rename_i y hy
    have := hC y (List.mem_of_find?_eq_some hy)
    omega
  · rename_i hy
    have := List.find?_eq_none.1 hy x hx
    simp [he] at this
theorem nmAt_inj {a b : Nat} (ha : a < 5) (hb : b < 5) (h : nmAt a = nmAt b) : a = b := by
  have : ∀ a : Fin 5, ∀ b : Fin 5, nmAt a.1 = nmAt b.1 → a.1 = b.1 := by decide
  exact this ⟨a, ha⟩ ⟨b, hb⟩ h
theorem nmAt_take {n k : Nat} {s : List UInt8} (hn : n ≤ 5) (h : (names5.take n)[k]? = some s) : k < n ∧ s = nmAt k := by
  have hk : k < n := by
    have := (List.getElem?_eq_some_iff.1 h).1
    rw [List.length_take] at this
    omega
  rw [List.getElem?_take, if_pos hk] at h
  exact ⟨hk, by rw [nmAt, List.getD_eq_getElem?_getD, h]; rfl⟩
theorem nmAt_ne (k : Nat) (hk : k < 5) : nmAt k ≠ [] := by
  have : ∀ a : Fin 5, nmAt a.1 ≠ [] := by decide
  exact this ⟨k, hk⟩
/-- one pick: the turn stays, or the next one has it -/
theorem pick_step {n T : Nat} {last : List UInt8} {f : Fr} {hs : List Hd} (hn1 : 1 ≤ n) (hn5 : n ≤ 5) (hg : Gd f) (hQ : f.Q = 1000) (hN : f.ts.map Tn.N = names5.take n) (hT : TurnSt n T last f) (h : HsOK n hs) :
    ∃ (fr : Fr) (k : Nat) (q : Tn), pickN 10 f hs = some fr ∧ Gd fr ∧ fr.Q = 1000 ∧ fr.ts.map Tn.N = names5.take n ∧ fr.At = (k : Int) ∧ fr.ts[k]? = some q ∧ ((q.N = last ∧ TurnSt n T last fr) ∨ (q.N ≠ last ∧ q.N = nmAt (T % n) ∧ TurnSt n (T + 1) q.N fr)) := by
  obtain ⟨k0, hk0, hkl⟩ := hg.at_
  have hlen : f.ts.length = n := by
    have := congrArg List.length hN
    rw [List.length_map, List.length_take] at this
    simp [names5] at this
    omega
  have hA : ∀ q, q ∈ f.ts → costOf hs q.N ≠ 0 := fun q hq => costOf_pos h.ok (by rw [h.names, ← hN]; exact List.mem_map_of_mem hq)
  obtain ⟨fr, hp, hQr, hat⟩ := round_pick hg hQ h.ok hA hk0
  obtain ⟨g1, g2, g3, k, q, g4, g5, g6⟩ := pickN_spec h.ok 10 f fr hg hp
  rw [hN] at g2
  have hq0 : (names5.take n)[k]? = some q.N := by rw [← g2, List.getElem?_map, g5]; rfl
  obtain ⟨hkn, hqn⟩ := nmAt_take hn5 hq0
  refine ⟨fr, k, q, hp, g1, hQr, g2, g4, g5, ?_⟩
  have hmod : T % n < n := Nat.mod_lt _ (by omega)
  rcases hT with ⟨rfl, rfl, h0, hH⟩ | ⟨hT0, rfl, hAt⟩
  · have hkk : k = 0 := by
      rcases hat with e | ⟨e, _⟩
      · omega
      · rw [hH] at e; cases e
    subst hkk
    right
    refine ⟨by rw [hqn]; exact nmAt_ne 0 (by omega), by rw [hqn, Nat.zero_mod], .inr ⟨by omega, by rw [hqn]; simp, by rw [g4]; simp⟩⟩
  · have hm1 : (T - 1) % n < n := Nat.mod_lt _ (by omega)
    have hk1 : k0 = (T - 1) % n := by omega
    have hs1 : ((T - 1) % n + 1) % n = T % n := by
      have : T = T - 1 + 1 := by omega
      conv => rhs; rw [this]
      rw [Nat.mod_add_mod]
    by_cases hkk : k = (T - 1) % n
    · left
      exact ⟨by rw [hqn, hkk], .inr ⟨hT0, rfl, by rw [g4, hkk]⟩⟩
    · right
      have hk2 : k = T % n := by
        rcases hat with e | ⟨_, e⟩
        · omega
        · rw [hlen, hk1, hs1] at e; omega
      refine ⟨?_, by rw [hqn, hk2], .inr ⟨by omega, by rw [hqn, hk2, Nat.add_sub_cancel], by rw [g4, hk2, Nat.add_sub_cancel]⟩⟩
      rw [hqn]
      intro he
      exact hkk (nmAt_inj (by omega) (by omega) he)
theorem Sl.apartR {size n c base : Nat} {w w' : World} {A B : Option Addr} {cs : List Value} (h : Sl w size A n c cs) (hg : w.grownBy w' (rowOf base B)) (ha : Apart A B) : Sl w' size A n c cs :=
  h.grown hg (fun a hA he => by
    cases B with
    | none => simp [rowOf] at he
    | some b =>
      simp only [rowOf, Option.bind_some] at he
      by_cases hq : base ≤ b.block
      · rw [if_pos hq] at he
        exact ha a b hA rfl (Option.some.inj he)
      · rw [if_neg hq] at he; simp at he)
theorem turnV_snoc (n T : Nat) : turnV n (T + 1) = turnV n T ++ [.string (bstr (nmAt (T % n)))] := by
  simp [turnV, List.range_succ]
theorem flatH_snoc (ts : List Hd) (t : Hd) : flatH (ts ++ [t]) = flatH ts ++ t.cells := by simp [flatH]
theorem hdCells_one (t : Hd) : ∀ u ∈ t.cells, u.oneCell' = true := by
  intro u hu; simp [Hd.cells] at hu; rcases hu with rfl | rfl <;> rfl
theorem infoHd : (Try.prog.info? 45).map (fun i => (i.zero, i.size, i.bytes)) = some (some (Hd.v ⟨[], 0⟩), 2, 24) := by kernel_rfl
theorem infoStr : (Try.prog.info? 9).map (fun i => (i.zero, i.size, i.bytes)) = some (some (.string (bstr [])), 1, 16) := by kernel_rfl
theorem sl2 (w : World) (t : Hd) : Sl (w.alloc (.cells t.cells.toArray 45)) 2 (some ⟨w.heap.size, 0, none⟩) 1 1 t.cells := ⟨(sl_cells w t.cells 45).cells, rfl, Nat.le_refl _, fun h => by cases h⟩

set_option maxRecDepth 100000 in
set_option maxHeartbeats 8000000 in
theorem walk_round (ws cs : List Int) (P P2 : Option Addr) (m d m2 d2 : Nat) (w : World) (hW : Sl w 1 P m d (intsV ws)) (hC : Sl w 1 P2 m2 d2 (intsV cs)) (hm : m ≤ 9223372036854775807) (hm2 : m2 ≤ 9223372036854775807) :
    Calls Try.prog 4 #[.slice P m d, .slice P2 m2 d2] w fun e w' => e = .returned (.bool true) ∧ Below w.heap.size w w' := by
  go_enter Try.func4, Try.ntmps4
  go_wp2_with fail
  refine (fnew_any 1000 _ (by decide) (by decide)).mono ?_; rintro x wa ⟨rfl, b1⟩
  have o1 : Own wa.heap.size 36 1 (wa.alloc (.cells (frC 1000 none 0 0 0 false).toArray 36)) (some ⟨wa.heap.size, 0, none⟩) 4 4 (frC 1000 none 0 0 0 false) := new_own wa (frC 1000 none 0 0 0 false) 36 4 rfl (by unfold maxLen; omega)
  have b2 := below_alloc1 wa (.cells (frC 1000 none 0 0 0 false).toArray 36)
  have o1 := o1.lower (base' := w.heap.size) b1.size
  have bA := b1.trans (b2.mono b1.size)
  have hgw := b1.size
  simp only [frC] at o1 bA
  clear b1 b2
  unfold frV
  have hmw : IntKind.i64.wrap ((m : Int) - 1) = (m : Int) - 1 := IntWalk.i64_in _ (by omega)
  go_upto_region 2 with fail
  generalize wa.alloc (.cells #[.int .i64 1000, .slice none 0 0, .int .i64 0, .bool false] 36) = w2 at *
  go_wp2_with fail
  refine (pickK_any ((m : Int) - 1) 5 _ (by decide) (by decide)).mono ?_; rintro x w' ⟨⟨r, hr5, rfl⟩, rfl⟩
  obtain ⟨n, hn⟩ : ∃ n : Nat, n = 1 + r := ⟨_, rfl⟩
  have hn1 : 1 ≤ n := by omega
  have hn5 : n ≤ 5 := by omega
  have hn3 : (1 + (r : Int)) = (n : Int) := by omega
  have hwr : IntKind.i64.wrap (1 + (r : Int)) = (n : Int) := by rw [hn3]; exact IntWalk.i64_in _ (by omega)
  clear hn hn3 hr5
  go_upto_block 0 with fail
  go_wp2_with fail
  go_loopw [33] (fun s33 wx => ∃ (k : Nat) (ts : List Tn) (A : Option Addr) (cc : Nat), k ≤ n ∧ s33 = .int .i64 (k : Int) ∧ Own w.heap.size 36 1 wx (some ⟨wa.heap.size, 0, none⟩) 4 4 (frC 1000 A ts.length cc 0 false) ∧ Sl wx 3 A ts.length cc (flatT ts) ∧ Hid (SetSt k ts) ∧ Below w.heap.size w wx) (fun iv _ => n - (intOf iv).toNat)
  case atStart => exact ⟨0, [], none, 0, by omega, rfl, o1, Sl.nil _ 3, Lib.hid ⟨rfl, rfl, fun t ht => by cases ht⟩, bA⟩
  case round =>
    obtain ⟨k, ts, A, cc, hkn, rfl, oF, sF, HS0, bF⟩ := hrel
    by_cases g1 : (k : Int) < (n : Int)
    · have hk5 : k < 5 := by omega
      by_cases g2 : (k : Int) < (m : Int)
      · obtain ⟨x0, hx0⟩ := get_some ws k (by have := hW.len; simp [intsV] at this; omega)
        have hWx := hW.below bF
        obtain ⟨adw, rfl, hcw⟩ := hWx.cells k (.int .i64 x0) (by simp [intsV, hx0])
        have hinw : (0 : Int) ≤ (k : Int) ∧ (k : Int) < (m : Int) := by omega
        clear hWx hx0
        go_wp2_with fail
        refine (pickK_any x0 100 _ (by decide) (by decide)).mono ?_; rintro x w' ⟨⟨rw, hrw, rfl⟩, rfl⟩
        obtain ⟨W, hW1⟩ : ∃ W : Int, W = 1 + (rw : Int) := ⟨_, rfl⟩
        have hWr : IntKind.i64.wrap (1 + (rw : Int)) = W := by rw [hW1]; exact IntWalk.i64_in _ (by omega)
        have HS := Lib.hid (show rightF ⟨1000, ts, 0, false⟩ = true ∧ namedB (nmAt k) = true ∧ 1 ≤ W ∧ W ≤ 100 ∧ placeI ts (nmAt k) = -1 ∧ ts.length < 20 from ⟨HS0.out.right (by omega), nmAt_named hk5, by omega, by omega, HS0.out.place hk5, by have := HS0.out.len; omega⟩)
        have HW1 := Lib.hid (show 1 ≤ W ∧ W ≤ 100 by omega)
        clear hW1 hcw hinw hrw
        go_upto_region 9 with fail
        obtain ⟨w2, hw2⟩ : ∃ w2, w2 = wr := ⟨_, rfl⟩
        subst hw2
        have oFx := oF
        --@region 4 9 rd9.spec
        refine wp_region_runS [10, 11] (fun k => if k = 11 then 10 else k) (fun _ _ => True) (by kernel_rfl) (by kernel_rfl) (by kernel_rfl) (R := RF w2.heap.size) (fun _ _ h => RF.below h) (fun _ _ _ => RF.trans) (fun _ _ _ _ _ => trivial) trivial ?_
        apply RunS.pure (by decide)
        · intro vs w hb hd; clear hd; have oX := RF.own hb (Nat.le_refl _) oF; have k0 := World.ownsRow.cellAt oX 0 (by omega); have k1 := World.ownsRow.cellAt oX 1 (by omega); have k2 := World.ownsRow.cellAt oX 2 (by omega); have k3 := World.ownsRow.cellAt oX 3 (by omega); simp only [frC, List.getElem?_cons_succ, List.getElem?_cons_zero] at k0 k1 k2 k3; simp only [List.take, putL, Act.put, List.setIfInBounds_toArray, List.set_cons_zero, List.set_cons_succ]; unfold StepOK; go_simp; exact ⟨Below.refl _ _, isV_mk _ _⟩
        refine RunS.such (by decide) (isNm) (isNm_stableR _) ?_ ?_
        · intro vs w hb hd; clear hd; simp only [List.take, putL, Act.put, List.setIfInBounds_toArray, List.set_cons_zero, List.set_cons_succ]; unfold StepOK; go_simp; exact ⟨Below.refl _ _, names_such _⟩
        apply RunS.pure (by decide)
        · intro vs w hb hd; clear hd; simp only [List.take, putL, Act.put, List.setIfInBounds_toArray, List.set_cons_zero, List.set_cons_succ]; unfold StepOK; go_simp; exact ⟨Below.refl _ _, isV_mk _ _⟩
        refine RunS.such (by decide) (isNmAt k) (isNmAt_stableR _ _) ?_ ?_
        · intro vs w hb hd; have d1 := hd 1 (by decide) (by kernel_rfl); simp only [TR, Nat.reduceAdd, Nat.reduceSub, List.getD_cons_zero, List.getD_cons_succ] at d1; have d2 : isV _ (vs 2) w := hd 2 (by decide) (by kernel_rfl); unfold isV at d2; clear hd; obtain ⟨A3, e1, s3⟩ := isNm_elim d1; obtain ⟨ad3, rfl, hcl⟩ := nm_at s3 hk5; have hin : (0 : Int) ≤ (k : Int) ∧ (k : Int) < 5 := by { omega }; simp only [List.take, putL, Act.put, List.setIfInBounds_toArray, List.set_cons_zero, List.set_cons_succ]; unfold StepOK; go_simp; exact ⟨Below.refl _ _, _, rfl, hcl⟩
        refine RunS.such (by decide) (isV (.string (bstr (nmAt k)))) (fun _ _ _ _ h => h) ?_ ?_
        · intro vs w hb hd; have d3 := hd 3 (by decide) (by kernel_rfl); simp only [TR, Nat.reduceAdd, Nat.reduceSub, List.getD_cons_zero, List.getD_cons_succ] at d3; clear hd; obtain ⟨ad3, e3, hcl⟩ := isNmAt_elim d3; simp only [List.take, putL, Act.put, List.setIfInBounds_toArray, List.set_cons_zero, List.set_cons_succ]; unfold StepOK; go_simp; exact ⟨Below.refl _ _, isV_mk _ _⟩
        apply RunS.pure (by decide)
        · intro vs w hb hd; clear hd; simp only [List.take, putL, Act.put, List.setIfInBounds_toArray, List.set_cons_zero, List.set_cons_succ]; unfold StepOK; go_simp; exact ⟨Below.refl _ _, isV_mk _ _⟩
        refine RunS.such (by decide) (isSet w2.heap.size ts (nmAt k) W) (isSet_stableR _ _ _ _ _) ?_ ?_
        · intro vs w hb hd; have d0 : isV _ (vs 0) w := hd 0 (by decide) (by kernel_rfl); unfold isV at d0; have d1 := hd 1 (by decide) (by kernel_rfl); simp only [TR, Nat.reduceAdd, Nat.reduceSub, List.getD_cons_zero, List.getD_cons_succ] at d1; have d4 := hd 4 (by decide) (by kernel_rfl); simp only [TR, Nat.reduceAdd, Nat.reduceSub, List.getD_cons_zero, List.getD_cons_succ] at d4; have d5 : isV _ (vs 5) w := hd 5 (by decide) (by kernel_rfl); unfold isV at d5; clear hd; unfold isV at d4; simp only [List.take, putL, Act.put, List.setIfInBounds_toArray, List.set_cons_zero, List.set_cons_succ]; unfold StepOK; go_simp; exact ⟨Below.refl _ _, fset_such _ _ _ _ _ hb.size (RF.slA hb (Nat.le_refl _) sF) HS.out⟩
        refine RunS.such (by decide) (isSet w2.heap.size ts (nmAt k) W) (isSet_stableR _ _ _ _ _) ?_ ?_
        · intro vs w hb hd; have d6 := hd 6 (by decide) (by kernel_rfl); simp only [TR, Nat.reduceAdd, Nat.reduceSub, List.getD_cons_zero, List.getD_cons_succ] at d6; clear hd; obtain ⟨A4, c4, e6, s6, f6⟩ := isSet_elim d6; simp only [List.take, putL, Act.put, List.setIfInBounds_toArray, List.set_cons_zero, List.set_cons_succ]; unfold StepOK; go_simp; exact ⟨Below.refl _ _, A4, c4, rfl, s6, f6⟩
        refine RunS.such (by decide) (isFrV w2.heap.size ts (nmAt k) W) (isFrV_stableR _ _ _ _ _) ?_ ?_
        · intro vs w hb hd; have d7 := hd 7 (by decide) (by kernel_rfl); simp only [TR, Nat.reduceAdd, Nat.reduceSub, List.getD_cons_zero, List.getD_cons_succ] at d7; clear hd; obtain ⟨A4, c4, e7, s7, f7⟩ := isSet_elim d7; simp only [List.take, putL, Act.put, List.setIfInBounds_toArray, List.set_cons_zero, List.set_cons_succ]; unfold StepOK; go_simp; exact ⟨Below.refl _ _, A4, c4, rfl, s7, f7⟩
        refine RunS.such (by decide) (isV (.int .i64 0)) (fun _ _ _ _ h => h) ?_ ?_
        · intro vs w hb hd; have d7 := hd 7 (by decide) (by kernel_rfl); simp only [TR, Nat.reduceAdd, Nat.reduceSub, List.getD_cons_zero, List.getD_cons_succ] at d7; clear hd; obtain ⟨A4, c4, e7, s7, f7⟩ := isSet_elim d7; simp only [List.take, putL, Act.put, List.setIfInBounds_toArray, List.set_cons_zero, List.set_cons_succ]; unfold StepOK; go_simp; exact ⟨Below.refl _ _, isV_mk _ _⟩
        refine RunS.eff (by decide) (JnewZ w2.heap.size) (JnewZ_stable _) (by rfl) (by rfl) ?_ ?_
        · intro vs w hb hd hj; clear hd; have hj2 := hj; (try simp only [prevE, lastV, lastS, List.mem_cons, List.not_mem_nil, or_false, Nat.reduceEqDiff, Nat.reduceAdd, if_true, if_false, reduceIte, or_true, true_or, or_self] at hj2); clear hj; have hB := hb.size; clear hj2; simp only [List.take, putL, Act.put, List.setIfInBounds_toArray, List.set_cons_zero, List.set_cons_succ]; unfold StepE; go_simp; exact ⟨RF.below (below_alloc1 _ _), _, rfl, hB, Own.lower (new_own _ frZ 36 4 rfl (by unfold maxLen; omega)) hB, zeroF_new _ _⟩
        refine RunS.storeAt (by decide) 10 (JF2 w2.heap.size ts (nmAt k) W) (JF2_stable _ _ _ _) (by rfl) (by decide) (by kernel_rfl) ?_ ?_
        · intro vs w hb hd hj; have d0 : isV _ (vs 0) w := hd 0 (by decide) (by kernel_rfl); unfold isV at d0; have d1 := hd 1 (by decide) (by kernel_rfl); simp only [TR, Nat.reduceAdd, Nat.reduceSub, List.getD_cons_zero, List.getD_cons_succ] at d1; have d2 : isV _ (vs 2) w := hd 2 (by decide) (by kernel_rfl); unfold isV at d2; have d3 := hd 3 (by decide) (by kernel_rfl); simp only [TR, Nat.reduceAdd, Nat.reduceSub, List.getD_cons_zero, List.getD_cons_succ] at d3; have d4 := hd 4 (by decide) (by kernel_rfl); simp only [TR, Nat.reduceAdd, Nat.reduceSub, List.getD_cons_zero, List.getD_cons_succ] at d4; have d5 : isV _ (vs 5) w := hd 5 (by decide) (by kernel_rfl); unfold isV at d5; have d6 := hd 6 (by decide) (by kernel_rfl); simp only [TR, Nat.reduceAdd, Nat.reduceSub, List.getD_cons_zero, List.getD_cons_succ] at d6; have d7 := hd 7 (by decide) (by kernel_rfl); simp only [TR, Nat.reduceAdd, Nat.reduceSub, List.getD_cons_zero, List.getD_cons_succ] at d7; have d8 := hd 8 (by decide) (by kernel_rfl); simp only [TR, Nat.reduceAdd, Nat.reduceSub, List.getD_cons_zero, List.getD_cons_succ] at d8; clear hd; have hj2 := hj; (try simp only [prevE, lastV, lastS, List.mem_cons, List.not_mem_nil, or_false, Nat.reduceEqDiff, Nat.reduceAdd, if_true, if_false, reduceIte, or_true, true_or, or_self] at hj2); clear hj; obtain ⟨A4, c4, e8, s8, f8⟩ := isFrV_elim d8; obtain ⟨g, eg, hBg, ho, hzz⟩ := hj2; have y0 := World.ownsRow.cellAt ho 0 (by omega); have x0 := World.ownsRow.frozenAt ho 0; have y1 := World.ownsRow.cellAt ho 1 (by omega); have x1 := World.ownsRow.frozenAt ho 1; have y2 := World.ownsRow.cellAt ho 2 (by omega); have x2 := World.ownsRow.frozenAt ho 2; have y3 := World.ownsRow.cellAt ho 3 (by omega); have x3 := World.ownsRow.frozenAt ho 3; simp only [frZ, List.getElem?_cons_succ, List.getElem?_cons_zero] at y0 y1 y2 y3; have st := stored4 ho (.int .i64 1000) (.slice A4 (addT ts (nmAt k) W).length c4) (.int .i64 0) (.bool false); have hR := RF.store st.2 hBg ho hzz; have s9 := hR.sl s8 (addT_ne _ _ _); have HRR := Lib.hid hR; clear ho hzz s8 hR; simp only [List.take, putL, Act.put, List.setIfInBounds_toArray, List.set_cons_zero, List.set_cons_succ]; unfold StepE; go_simp; first | exact ⟨HRR.out, g, A4, c4, eg, hBg, st.1, s9, f8⟩ | exact ⟨HRR.out, g, A4, c4, rfl, hBg, st.1, s9, f8⟩
        apply RunS.pure (by decide)
        · intro vs w hb hd; have d0 : isV _ (vs 0) w := hd 0 (by decide) (by kernel_rfl); unfold isV at d0; have d1 := hd 1 (by decide) (by kernel_rfl); simp only [TR, Nat.reduceAdd, Nat.reduceSub, List.getD_cons_zero, List.getD_cons_succ] at d1; have d2 : isV _ (vs 2) w := hd 2 (by decide) (by kernel_rfl); unfold isV at d2; have d3 := hd 3 (by decide) (by kernel_rfl); simp only [TR, Nat.reduceAdd, Nat.reduceSub, List.getD_cons_zero, List.getD_cons_succ] at d3; have d4 := hd 4 (by decide) (by kernel_rfl); simp only [TR, Nat.reduceAdd, Nat.reduceSub, List.getD_cons_zero, List.getD_cons_succ] at d4; have d5 : isV _ (vs 5) w := hd 5 (by decide) (by kernel_rfl); unfold isV at d5; have d6 := hd 6 (by decide) (by kernel_rfl); simp only [TR, Nat.reduceAdd, Nat.reduceSub, List.getD_cons_zero, List.getD_cons_succ] at d6; have d7 := hd 7 (by decide) (by kernel_rfl); simp only [TR, Nat.reduceAdd, Nat.reduceSub, List.getD_cons_zero, List.getD_cons_succ] at d7; have d8 := hd 8 (by decide) (by kernel_rfl); simp only [TR, Nat.reduceAdd, Nat.reduceSub, List.getD_cons_zero, List.getD_cons_succ] at d8; have d9 := hd 9 (by decide) (by kernel_rfl); simp only [TR, Nat.reduceAdd, Nat.reduceSub, List.getD_cons_zero, List.getD_cons_succ] at d9; clear hd; unfold isV at d9; simp only [List.take, putL, Act.put, List.setIfInBounds_toArray, List.set_cons_zero, List.set_cons_succ]; unfold StepOK; go_simp; exact ⟨Below.refl _ _, isV_mk _ _⟩
        intro vs w1 hb hd hj
        try simp only [prevE, lastV, lastS, List.mem_cons, List.not_mem_nil, or_false, Nat.reduceEqDiff, Nat.reduceAdd, if_true, if_false, reduceIte, or_true, true_or, or_self] at hj
        have e0 : isV _ (vs 0) w1 := hd 0 (by decide)
        have e1 := hd 1 (by decide); simp only [TR, Nat.reduceAdd, Nat.reduceSub, List.getD_cons_zero, List.getD_cons_succ] at e1
        have e2 : isV _ (vs 2) w1 := hd 2 (by decide)
        have e3 := hd 3 (by decide); simp only [TR, Nat.reduceAdd, Nat.reduceSub, List.getD_cons_zero, List.getD_cons_succ] at e3
        have e4 := hd 4 (by decide); simp only [TR, Nat.reduceAdd, Nat.reduceSub, List.getD_cons_zero, List.getD_cons_succ] at e4
        have e5 : isV _ (vs 5) w1 := hd 5 (by decide)
        have e6 := hd 6 (by decide); simp only [TR, Nat.reduceAdd, Nat.reduceSub, List.getD_cons_zero, List.getD_cons_succ] at e6
        have e7 := hd 7 (by decide); simp only [TR, Nat.reduceAdd, Nat.reduceSub, List.getD_cons_zero, List.getD_cons_succ] at e7
        have e8 := hd 8 (by decide); simp only [TR, Nat.reduceAdd, Nat.reduceSub, List.getD_cons_zero, List.getD_cons_succ] at e8
        have e9 := hd 9 (by decide); simp only [TR, Nat.reduceAdd, Nat.reduceSub, List.getD_cons_zero, List.getD_cons_succ] at e9
        have e12 : isV _ (vs 12) w1 := hd 12 (by decide)
        clear hd
        unfold isV at e0 e2 e5 e12
        simp only [putL, Act.put, List.setIfInBounds_toArray, List.set_cons_zero, List.set_cons_succ, e0, e2, e5, e12]
        clear e0 e2 e5 e12
        --@end
        obtain ⟨g, A4, c4, eg, hBg, oN, s4, f4⟩ := hj
        simp only [Nat.reduceAdd, eg]
        have hbw := RF.bel hb (Nat.le_refl _)
        have hgF := World.ownsRow.lt oF wa.heap.size rfl
        have oF4 := oF.below hbw
        have bG := bF.trans (hbw.mono bF.size)
        have hs2 := bF.size
        clear e1 e3 e4 e6 e7 e8 e9 hb hbw oF oFx sF bF
        go_upto_region 10 with fail
        have z0 := World.ownsRow.cellAt oN 0 (by omega)
        have z1 := World.ownsRow.cellAt oN 1 (by omega)
        have z2 := World.ownsRow.cellAt oN 2 (by omega)
        have z3 := World.ownsRow.cellAt oN 3 (by omega)
        simp only [List.getElem?_cons_succ, List.getElem?_cons_zero] at z0 z1 z2 z3
        have y0 := World.ownsRow.cellAt oF4 0 (by omega)
        have y1 := World.ownsRow.cellAt oF4 1 (by omega)
        have y2 := World.ownsRow.cellAt oF4 2 (by omega)
        have y3 := World.ownsRow.cellAt oF4 3 (by omega)
        simp only [frC, List.getElem?_cons_succ, List.getElem?_cons_zero] at y0 y1 y2 y3
        have x0 := World.ownsRow.frozenAt oF4 0
        have x1 := World.ownsRow.frozenAt oF4 1
        have x2 := World.ownsRow.frozenAt oF4 2
        have x3 := World.ownsRow.frozenAt oF4 3
        have st := stored4 oF4 (.int .i64 1000) (.slice A4 (addT ts (nmAt k) W).length c4) (.int .i64 0) (.bool false)
        have s10 := s4.grown st.2 (fun a ha he => by
          have e1 : a.block = wa.heap.size := Option.some.inj he
          have := f4 a ha
          omega)
        have bJ := bG.grown st.2 bG.size (fun j hj => by cases hj; omega)
        have oK := st.1
        have HSn := Lib.hid (HS0.out.add hk5 HW1.out.1 HW1.out.2)
        clear st s4 bG oN oF4
        go_wp2_with fail
        go_roundw
        case rel => exact ⟨k + 1, addT ts (nmAt k) W, A4, c4, by omega, by go_num, oK, s10, HSn, bJ⟩
        case measure => simp [intOf]; omega
      · obtain ⟨W, hW1⟩ : ∃ W : Int, W = 1 := ⟨_, rfl⟩
        have HS := Lib.hid (show rightF ⟨1000, ts, 0, false⟩ = true ∧ namedB (nmAt k) = true ∧ 1 ≤ W ∧ W ≤ 100 ∧ placeI ts (nmAt k) = -1 ∧ ts.length < 20 from ⟨HS0.out.right (by omega), nmAt_named hk5, by omega, by omega, HS0.out.place hk5, by have := HS0.out.len; omega⟩)
        have HW1 := Lib.hid hW1
        clear hW1
        go_upto_region 9 with fail
        rw [show (Value.int IntKind.i64 1) = .int .i64 W by rw [HW1.out]]
        obtain ⟨w2, hw2⟩ : ∃ w2, w2 = wr := ⟨_, rfl⟩
        subst hw2
        have oFx := oF
        --@region 4 9 rd9.spec
        refine wp_region_runS [10, 11] (fun k => if k = 11 then 10 else k) (fun _ _ => True) (by kernel_rfl) (by kernel_rfl) (by kernel_rfl) (R := RF w2.heap.size) (fun _ _ h => RF.below h) (fun _ _ _ => RF.trans) (fun _ _ _ _ _ => trivial) trivial ?_
        apply RunS.pure (by decide)
        · intro vs w hb hd; clear hd; have oX := RF.own hb (Nat.le_refl _) oF; have k0 := World.ownsRow.cellAt oX 0 (by omega); have k1 := World.ownsRow.cellAt oX 1 (by omega); have k2 := World.ownsRow.cellAt oX 2 (by omega); have k3 := World.ownsRow.cellAt oX 3 (by omega); simp only [frC, List.getElem?_cons_succ, List.getElem?_cons_zero] at k0 k1 k2 k3; simp only [List.take, putL, Act.put, List.setIfInBounds_toArray, List.set_cons_zero, List.set_cons_succ]; unfold StepOK; go_simp; exact ⟨Below.refl _ _, isV_mk _ _⟩
        refine RunS.such (by decide) (isNm) (isNm_stableR _) ?_ ?_
        · intro vs w hb hd; clear hd; simp only [List.take, putL, Act.put, List.setIfInBounds_toArray, List.set_cons_zero, List.set_cons_succ]; unfold StepOK; go_simp; exact ⟨Below.refl _ _, names_such _⟩
        apply RunS.pure (by decide)
        · intro vs w hb hd; clear hd; simp only [List.take, putL, Act.put, List.setIfInBounds_toArray, List.set_cons_zero, List.set_cons_succ]; unfold StepOK; go_simp; exact ⟨Below.refl _ _, isV_mk _ _⟩
        refine RunS.such (by decide) (isNmAt k) (isNmAt_stableR _ _) ?_ ?_
        · intro vs w hb hd; have d1 := hd 1 (by decide) (by kernel_rfl); simp only [TR, Nat.reduceAdd, Nat.reduceSub, List.getD_cons_zero, List.getD_cons_succ] at d1; have d2 : isV _ (vs 2) w := hd 2 (by decide) (by kernel_rfl); unfold isV at d2; clear hd; obtain ⟨A3, e1, s3⟩ := isNm_elim d1; obtain ⟨ad3, rfl, hcl⟩ := nm_at s3 hk5; have hin : (0 : Int) ≤ (k : Int) ∧ (k : Int) < 5 := by { omega }; simp only [List.take, putL, Act.put, List.setIfInBounds_toArray, List.set_cons_zero, List.set_cons_succ]; unfold StepOK; go_simp; exact ⟨Below.refl _ _, _, rfl, hcl⟩
        refine RunS.such (by decide) (isV (.string (bstr (nmAt k)))) (fun _ _ _ _ h => h) ?_ ?_
        · intro vs w hb hd; have d3 := hd 3 (by decide) (by kernel_rfl); simp only [TR, Nat.reduceAdd, Nat.reduceSub, List.getD_cons_zero, List.getD_cons_succ] at d3; clear hd; obtain ⟨ad3, e3, hcl⟩ := isNmAt_elim d3; simp only [List.take, putL, Act.put, List.setIfInBounds_toArray, List.set_cons_zero, List.set_cons_succ]; unfold StepOK; go_simp; exact ⟨Below.refl _ _, isV_mk _ _⟩
        apply RunS.pure (by decide)
        · intro vs w hb hd; clear hd; simp only [List.take, putL, Act.put, List.setIfInBounds_toArray, List.set_cons_zero, List.set_cons_succ]; unfold StepOK; go_simp; exact ⟨Below.refl _ _, isV_mk _ _⟩
        refine RunS.such (by decide) (isSet w2.heap.size ts (nmAt k) W) (isSet_stableR _ _ _ _ _) ?_ ?_
        · intro vs w hb hd; have d0 : isV _ (vs 0) w := hd 0 (by decide) (by kernel_rfl); unfold isV at d0; have d1 := hd 1 (by decide) (by kernel_rfl); simp only [TR, Nat.reduceAdd, Nat.reduceSub, List.getD_cons_zero, List.getD_cons_succ] at d1; have d4 := hd 4 (by decide) (by kernel_rfl); simp only [TR, Nat.reduceAdd, Nat.reduceSub, List.getD_cons_zero, List.getD_cons_succ] at d4; have d5 : isV _ (vs 5) w := hd 5 (by decide) (by kernel_rfl); unfold isV at d5; clear hd; unfold isV at d4; simp only [List.take, putL, Act.put, List.setIfInBounds_toArray, List.set_cons_zero, List.set_cons_succ]; unfold StepOK; go_simp; exact ⟨Below.refl _ _, fset_such _ _ _ _ _ hb.size (RF.slA hb (Nat.le_refl _) sF) HS.out⟩
        refine RunS.such (by decide) (isSet w2.heap.size ts (nmAt k) W) (isSet_stableR _ _ _ _ _) ?_ ?_
        · intro vs w hb hd; have d6 := hd 6 (by decide) (by kernel_rfl); simp only [TR, Nat.reduceAdd, Nat.reduceSub, List.getD_cons_zero, List.getD_cons_succ] at d6; clear hd; obtain ⟨A4, c4, e6, s6, f6⟩ := isSet_elim d6; simp only [List.take, putL, Act.put, List.setIfInBounds_toArray, List.set_cons_zero, List.set_cons_succ]; unfold StepOK; go_simp; exact ⟨Below.refl _ _, A4, c4, rfl, s6, f6⟩
        refine RunS.such (by decide) (isFrV w2.heap.size ts (nmAt k) W) (isFrV_stableR _ _ _ _ _) ?_ ?_
        · intro vs w hb hd; have d7 := hd 7 (by decide) (by kernel_rfl); simp only [TR, Nat.reduceAdd, Nat.reduceSub, List.getD_cons_zero, List.getD_cons_succ] at d7; clear hd; obtain ⟨A4, c4, e7, s7, f7⟩ := isSet_elim d7; simp only [List.take, putL, Act.put, List.setIfInBounds_toArray, List.set_cons_zero, List.set_cons_succ]; unfold StepOK; go_simp; exact ⟨Below.refl _ _, A4, c4, rfl, s7, f7⟩
        refine RunS.such (by decide) (isV (.int .i64 0)) (fun _ _ _ _ h => h) ?_ ?_
        · intro vs w hb hd; have d7 := hd 7 (by decide) (by kernel_rfl); simp only [TR, Nat.reduceAdd, Nat.reduceSub, List.getD_cons_zero, List.getD_cons_succ] at d7; clear hd; obtain ⟨A4, c4, e7, s7, f7⟩ := isSet_elim d7; simp only [List.take, putL, Act.put, List.setIfInBounds_toArray, List.set_cons_zero, List.set_cons_succ]; unfold StepOK; go_simp; exact ⟨Below.refl _ _, isV_mk _ _⟩
        refine RunS.eff (by decide) (JnewZ w2.heap.size) (JnewZ_stable _) (by rfl) (by rfl) ?_ ?_
        · intro vs w hb hd hj; clear hd; have hj2 := hj; (try simp only [prevE, lastV, lastS, List.mem_cons, List.not_mem_nil, or_false, Nat.reduceEqDiff, Nat.reduceAdd, if_true, if_false, reduceIte, or_true, true_or, or_self] at hj2); clear hj; have hB := hb.size; clear hj2; simp only [List.take, putL, Act.put, List.setIfInBounds_toArray, List.set_cons_zero, List.set_cons_succ]; unfold StepE; go_simp; exact ⟨RF.below (below_alloc1 _ _), _, rfl, hB, Own.lower (new_own _ frZ 36 4 rfl (by unfold maxLen; omega)) hB, zeroF_new _ _⟩
        refine RunS.storeAt (by decide) 10 (JF2 w2.heap.size ts (nmAt k) W) (JF2_stable _ _ _ _) (by rfl) (by decide) (by kernel_rfl) ?_ ?_
        · intro vs w hb hd hj; have d0 : isV _ (vs 0) w := hd 0 (by decide) (by kernel_rfl); unfold isV at d0; have d1 := hd 1 (by decide) (by kernel_rfl); simp only [TR, Nat.reduceAdd, Nat.reduceSub, List.getD_cons_zero, List.getD_cons_succ] at d1; have d2 : isV _ (vs 2) w := hd 2 (by decide) (by kernel_rfl); unfold isV at d2; have d3 := hd 3 (by decide) (by kernel_rfl); simp only [TR, Nat.reduceAdd, Nat.reduceSub, List.getD_cons_zero, List.getD_cons_succ] at d3; have d4 := hd 4 (by decide) (by kernel_rfl); simp only [TR, Nat.reduceAdd, Nat.reduceSub, List.getD_cons_zero, List.getD_cons_succ] at d4; have d5 : isV _ (vs 5) w := hd 5 (by decide) (by kernel_rfl); unfold isV at d5; have d6 := hd 6 (by decide) (by kernel_rfl); simp only [TR, Nat.reduceAdd, Nat.reduceSub, List.getD_cons_zero, List.getD_cons_succ] at d6; have d7 := hd 7 (by decide) (by kernel_rfl); simp only [TR, Nat.reduceAdd, Nat.reduceSub, List.getD_cons_zero, List.getD_cons_succ] at d7; have d8 := hd 8 (by decide) (by kernel_rfl); simp only [TR, Nat.reduceAdd, Nat.reduceSub, List.getD_cons_zero, List.getD_cons_succ] at d8; clear hd; have hj2 := hj; (try simp only [prevE, lastV, lastS, List.mem_cons, List.not_mem_nil, or_false, Nat.reduceEqDiff, Nat.reduceAdd, if_true, if_false, reduceIte, or_true, true_or, or_self] at hj2); clear hj; obtain ⟨A4, c4, e8, s8, f8⟩ := isFrV_elim d8; obtain ⟨g, eg, hBg, ho, hzz⟩ := hj2; have y0 := World.ownsRow.cellAt ho 0 (by omega); have x0 := World.ownsRow.frozenAt ho 0; have y1 := World.ownsRow.cellAt ho 1 (by omega); have x1 := World.ownsRow.frozenAt ho 1; have y2 := World.ownsRow.cellAt ho 2 (by omega); have x2 := World.ownsRow.frozenAt ho 2; have y3 := World.ownsRow.cellAt ho 3 (by omega); have x3 := World.ownsRow.frozenAt ho 3; simp only [frZ, List.getElem?_cons_succ, List.getElem?_cons_zero] at y0 y1 y2 y3; have st := stored4 ho (.int .i64 1000) (.slice A4 (addT ts (nmAt k) W).length c4) (.int .i64 0) (.bool false); have hR := RF.store st.2 hBg ho hzz; have s9 := hR.sl s8 (addT_ne _ _ _); have HRR := Lib.hid hR; clear ho hzz s8 hR; simp only [List.take, putL, Act.put, List.setIfInBounds_toArray, List.set_cons_zero, List.set_cons_succ]; unfold StepE; go_simp; first | exact ⟨HRR.out, g, A4, c4, eg, hBg, st.1, s9, f8⟩ | exact ⟨HRR.out, g, A4, c4, rfl, hBg, st.1, s9, f8⟩
        apply RunS.pure (by decide)
        · intro vs w hb hd; have d0 : isV _ (vs 0) w := hd 0 (by decide) (by kernel_rfl); unfold isV at d0; have d1 := hd 1 (by decide) (by kernel_rfl); simp only [TR, Nat.reduceAdd, Nat.reduceSub, List.getD_cons_zero, List.getD_cons_succ] at d1; have d2 : isV _ (vs 2) w := hd 2 (by decide) (by kernel_rfl); unfold isV at d2; have d3 := hd 3 (by decide) (by kernel_rfl); simp only [TR, Nat.reduceAdd, Nat.reduceSub, List.getD_cons_zero, List.getD_cons_succ] at d3; have d4 := hd 4 (by decide) (by kernel_rfl); simp only [TR, Nat.reduceAdd, Nat.reduceSub, List.getD_cons_zero, List.getD_cons_succ] at d4; have d5 : isV _ (vs 5) w := hd 5 (by decide) (by kernel_rfl); unfold isV at d5; have d6 := hd 6 (by decide) (by kernel_rfl); simp only [TR, Nat.reduceAdd, Nat.reduceSub, List.getD_cons_zero, List.getD_cons_succ] at d6; have d7 := hd 7 (by decide) (by kernel_rfl); simp only [TR, Nat.reduceAdd, Nat.reduceSub, List.getD_cons_zero, List.getD_cons_succ] at d7; have d8 := hd 8 (by decide) (by kernel_rfl); simp only [TR, Nat.reduceAdd, Nat.reduceSub, List.getD_cons_zero, List.getD_cons_succ] at d8; have d9 := hd 9 (by decide) (by kernel_rfl); simp only [TR, Nat.reduceAdd, Nat.reduceSub, List.getD_cons_zero, List.getD_cons_succ] at d9; clear hd; unfold isV at d9; simp only [List.take, putL, Act.put, List.setIfInBounds_toArray, List.set_cons_zero, List.set_cons_succ]; unfold StepOK; go_simp; exact ⟨Below.refl _ _, isV_mk _ _⟩
        intro vs w1 hb hd hj
        try simp only [prevE, lastV, lastS, List.mem_cons, List.not_mem_nil, or_false, Nat.reduceEqDiff, Nat.reduceAdd, if_true, if_false, reduceIte, or_true, true_or, or_self] at hj
        have e0 : isV _ (vs 0) w1 := hd 0 (by decide)
        have e1 := hd 1 (by decide); simp only [TR, Nat.reduceAdd, Nat.reduceSub, List.getD_cons_zero, List.getD_cons_succ] at e1
        have e2 : isV _ (vs 2) w1 := hd 2 (by decide)
        have e3 := hd 3 (by decide); simp only [TR, Nat.reduceAdd, Nat.reduceSub, List.getD_cons_zero, List.getD_cons_succ] at e3
        have e4 := hd 4 (by decide); simp only [TR, Nat.reduceAdd, Nat.reduceSub, List.getD_cons_zero, List.getD_cons_succ] at e4
        have e5 : isV _ (vs 5) w1 := hd 5 (by decide)
        have e6 := hd 6 (by decide); simp only [TR, Nat.reduceAdd, Nat.reduceSub, List.getD_cons_zero, List.getD_cons_succ] at e6
        have e7 := hd 7 (by decide); simp only [TR, Nat.reduceAdd, Nat.reduceSub, List.getD_cons_zero, List.getD_cons_succ] at e7
        have e8 := hd 8 (by decide); simp only [TR, Nat.reduceAdd, Nat.reduceSub, List.getD_cons_zero, List.getD_cons_succ] at e8
        have e9 := hd 9 (by decide); simp only [TR, Nat.reduceAdd, Nat.reduceSub, List.getD_cons_zero, List.getD_cons_succ] at e9
        have e12 : isV _ (vs 12) w1 := hd 12 (by decide)
        clear hd
        unfold isV at e0 e2 e5 e12
        simp only [putL, Act.put, List.setIfInBounds_toArray, List.set_cons_zero, List.set_cons_succ, e0, e2, e5, e12]
        clear e0 e2 e5 e12
        --@end
        obtain ⟨g, A4, c4, eg, hBg, oN, s4, f4⟩ := hj
        simp only [Nat.reduceAdd, eg]
        have hbw := RF.bel hb (Nat.le_refl _)
        have hgF := World.ownsRow.lt oF wa.heap.size rfl
        have oF4 := oF.below hbw
        have bG := bF.trans (hbw.mono bF.size)
        have hs2 := bF.size
        clear e1 e3 e4 e6 e7 e8 e9 hb hbw oF oFx sF bF
        go_upto_region 10 with fail
        have z0 := World.ownsRow.cellAt oN 0 (by omega)
        have z1 := World.ownsRow.cellAt oN 1 (by omega)
        have z2 := World.ownsRow.cellAt oN 2 (by omega)
        have z3 := World.ownsRow.cellAt oN 3 (by omega)
        simp only [List.getElem?_cons_succ, List.getElem?_cons_zero] at z0 z1 z2 z3
        have y0 := World.ownsRow.cellAt oF4 0 (by omega)
        have y1 := World.ownsRow.cellAt oF4 1 (by omega)
        have y2 := World.ownsRow.cellAt oF4 2 (by omega)
        have y3 := World.ownsRow.cellAt oF4 3 (by omega)
        simp only [frC, List.getElem?_cons_succ, List.getElem?_cons_zero] at y0 y1 y2 y3
        have x0 := World.ownsRow.frozenAt oF4 0
        have x1 := World.ownsRow.frozenAt oF4 1
        have x2 := World.ownsRow.frozenAt oF4 2
        have x3 := World.ownsRow.frozenAt oF4 3
        have st := stored4 oF4 (.int .i64 1000) (.slice A4 (addT ts (nmAt k) W).length c4) (.int .i64 0) (.bool false)
        have s10 := s4.grown st.2 (fun a ha he => by
          have e1 : a.block = wa.heap.size := Option.some.inj he
          have := f4 a ha
          omega)
        have bJ := bG.grown st.2 bG.size (fun j hj => by cases hj; omega)
        have oK := st.1
        have HSn := Lib.hid (HS0.out.add hk5 (show 1 ≤ W by rw [HW1.out]; decide) (show W ≤ 100 by rw [HW1.out]; decide))
        clear st s4 bG oN oF4
        go_wp2_with fail
        go_roundw
        case rel => exact ⟨k + 1, addT ts (nmAt k) W, A4, c4, by omega, by go_num, oK, s10, HSn, bJ⟩
        case measure => simp [intOf]; omega
    · obtain rfl : k = n := by omega
      have hG0 := Lib.hid (HS0.out.gd (by omega) hn1)
      clear o1 bA
      have b0 := below_alloc1 wr (.cells #[] 9)
      have hown : (wr.alloc (.cells #[] 9)).ownsRow wr.heap.size 9 1 (.slice (some ⟨wr.heap.size, 0, none⟩) 0 0) 0 [] := World.ownsRow_lit wr #[] 0 (Nat.le_refl _) (by unfold maxLen; omega) rfl
      have oF0 := oF.below b0
      have sF0 := sF.below b0
      have bF0 := bF.trans (b0.mono bF.size)
      have hst0 := Lib.hid (show TurnSt k 0 [] ⟨1000, ts, 0, false⟩ from .inl ⟨rfl, rfl, rfl, rfl⟩)
      have hnm0 := Lib.hid HS0.out.names
      have hln0 := HS0.out.len
      have hbase := bF.size
      have hltA : Lts A wr := fun a ha => by
        subst ha
        obtain ⟨t0, ht0⟩ := get_some ts 0 (by omega)
        have h3 := slT_three sF ht0
        have := World.block_lt_of_cell? _ _ h3.1
        simpa [Addr.add] using this
      go_wp2_with fail
      go_loopw [12, 13, 65] (fun s12 s13 s65 wx => ∃ (i T : Nat) (last : List UInt8) (f : Fr) (A TA : Option Addr) (c1 tc : Nat), i ≤ 80 ∧ T ≤ i ∧ s65 = .int .i64 (i : Int) ∧ s12 = .string (bstr last) ∧ s13 = .slice TA T tc ∧ App wr.heap.size 9 1 wx TA T tc (turnV k T) ∧ Own w.heap.size 36 1 wx (some ⟨wa.heap.size, 0, none⟩) 4 4 (frC f.Q A f.ts.length c1 f.At f.H) ∧ Sl wx 3 A f.ts.length c1 (flatT f.ts) ∧ Apart A TA ∧ Lts TA wx ∧ Lts A wx ∧ Hid (∀ b, TA = some b → b.block ≠ wa.heap.size) ∧ Hid (Gd f) ∧ Hid (f.Q = 1000 ∧ f.ts.map Tn.N = names5.take k ∧ TurnSt k T last f) ∧ Below w.heap.size w wx ∧ wr.heap.size ≤ wx.heap.size) (fun _ _ iv _ => 80 - (intOf iv).toNat)
      case atStart => exact ⟨0, 0, [], ⟨1000, ts, 0, false⟩, A, some ⟨wr.heap.size, 0, none⟩, cc, 0, by omega, by omega, rfl, rfl, rfl, .inl hown, oF0, sF0, (fun a b ha hb => by have := hltA a ha; cases hb; simp only; omega), (fun b hb => by cases hb; simp), (fun a ha => by have := hltA a ha; have := b0.size; omega), Lib.hid (fun b hb => by cases hb; simp only; have := (World.ownsRow.lt oF wa.heap.size rfl).2; omega), hG0, Lib.hid ⟨rfl, hnm0.out, hst0.out⟩, bF0, b0.size⟩
      case round =>
        clear oF sF bF oF0 sF0 bF0 hown b0 hltA hst0 hnm0 hG0 hln0 HS0
        obtain ⟨i, T, last, f, A1, TA, c1, tc, hi, hTi, rfl, rfl, rfl, aT, oF, sF, hAp, hLT, hLA, HTw, HG, HN, bF, hsz⟩ := hrel
        obtain ⟨wq, rfl⟩ : ∃ wq : World, wq = wr := ⟨_, rfl⟩
        by_cases g3 : (i : Int) < 80
        · have hCx := hC.below bF
          go_wp2_with fail
          go_loopw [15, 69] (fun s15 s69 wx => ∃ (j : Nat) (hs : List Hd) (SA : Option Addr) (sc : Nat), j ≤ k ∧ s69 = .int .i64 (j : Int) ∧ s15 = .slice SA j sc ∧ App wq.heap.size 45 2 wx SA j sc (flatH hs) ∧ Hid (HsOK j hs) ∧ Below wq.heap.size wq wx) (fun _ jv _ => k - (intOf jv).toNat)
          case atStart => exact ⟨0, [], none, 0, by omega, rfl, rfl, App.nil _ _ _ _, Lib.hid HsOK.nil, Below.refl _ _⟩
          case round =>
            obtain ⟨j, hs, SA, sc, hjk, rfl, rfl, aS, HS, hbx⟩ := hrel
            by_cases g4 : (j : Int) < (k : Int)
            · have hj5 : j < 5 := by omega
              have hinj : (0 : Int) ≤ (j : Int) ∧ (j : Int) < 5 := by omega
              have hCy := hCx.below hbx
              by_cases g5 : (0 : Int) < (m2 : Int)
              · obtain ⟨x0, hx0⟩ := get_some cs ((i + j) % m2) (by have := hC.len; simp [intsV] at this; have := Nat.mod_lt (i + j) (show 0 < m2 by omega); omega)
                obtain ⟨adc, rfl, hcc⟩ := hCy.cells ((i + j) % m2) (.int .i64 x0) (by simp [intsV, hx0])
                have hsum : (((i : Int) + (j : Int)) % (m2 : Int)).toNat = (i + j) % m2 := by
                  have h : ((i : Int) + (j : Int)) % (m2 : Int) = (((i + j) % m2 : Nat) : Int) := by rw [Int.natCast_emod, Int.natCast_add]
                  rw [h, Int.toNat_natCast]
                have hmod1 : 0 ≤ ((i : Int) + (j : Int)) % (m2 : Int) := Int.emod_nonneg _ (by omega)
                have hmod2 : ((i : Int) + (j : Int)) % (m2 : Int) < (m2 : Int) := Int.emod_lt_of_pos _ (by omega)
                go_wp2_with fail
                skip
                refine (pickK_any x0 1000 _ (by decide) (by decide)).mono ?_; rintro x w' ⟨⟨rc, hrc, rfl⟩, rfl⟩
                obtain ⟨C, hC1⟩ : ∃ C : Int, C = 1 + (rc : Int) := ⟨_, rfl⟩
                have hCr : IntKind.i64.wrap (1 + (rc : Int)) = C := by rw [hC1]; exact IntWalk.i64_in _ (by omega)
                have HC1 := Lib.hid (show 1 ≤ C ∧ C ≤ 1000 by omega)
                clear hC1 hrc hsum hmod1 hmod2 hcc hCy
                have HS1 := Lib.hid (HS.out.add hj5 HC1.out.1 HC1.out.2)
                have HS0 := Lib.hid (HS.out.len (by omega))
                clear HS
                go_wp2_with fail
                refine (names_such _).mono ?_; rintro x w3 ⟨v9, rfl, b3, hv9⟩
                obtain ⟨A9, rfl, sN⟩ := isNm_elim hv9
                obtain ⟨adn, rfl, hcl⟩ := nm_at sN hj5
                clear hv9
                have hb4 := hbx.trans (b3.mono hbx.size)
                have aS4 := aS.below b3
                clear hbx aS b3 sN
                have aS5 := aS4.alloc (.cells #[.string (bstr (nmAt j)), .int .i64 C] 45)
                have sl5 := sl2 w3 ⟨nmAt j, C⟩
                have bn5 := below_alloc1 w3 (.cells #[.string (bstr (nmAt j)), .int .i64 C] 45)
                have hb5 := hb4.trans (bn5.mono hb4.size)
                have Hbs := Lib.hid hb5.size
                simp only [Hd.cells] at sl5
                clear aS4 hb4 bn5
                go_wp2_with (at_builtin; refine wpList_app _ rfl (.tmp 86) (.tmp 93) 43 rfl wq.heap.size 45 (Hd.v ⟨[], 0⟩) 2 24 Try.underlying43 infoHd rfl (by decide) SA j sc (flatH hs) rfl aS5 (some ⟨w3.heap.size, 0, none⟩) 1 1 (Hd.cells ⟨nmAt j, C⟩) rfl sl5 (hdCells_one _) (by unfold maxLen; omega) (by omega) Hbs.out ?_; intro A10 d8 w8 hat8)
                have hb8 := hb5.trans ((hat8.below Hbs.out).mono (Nat.le_refl _))
                have ha10 := hat8.app
                go_roundw
                case rel => exact ⟨j + 1, hs ++ [⟨nmAt j, C⟩], A10, d8, by omega, by go_num, rfl, by rw [flatH_snoc]; exact ha10, HS1, hb8⟩
                case measure => simp [intOf]; omega
              · obtain rfl : m2 = 0 := by omega
                clear hCy
                have HS1 := Lib.hid (HS.out.add hj5 (show (1 : Int) ≤ 1 by decide) (show (1 : Int) ≤ 1000 by decide))
                have HS0 := Lib.hid (HS.out.len (by omega))
                clear HS
                go_wp2_with fail
                refine (names_such _).mono ?_; rintro x w3 ⟨v9, rfl, b3, hv9⟩
                obtain ⟨A9, rfl, sN⟩ := isNm_elim hv9
                obtain ⟨adn, rfl, hcl⟩ := nm_at sN hj5
                clear hv9
                have hb4 := hbx.trans (b3.mono hbx.size)
                have aS4 := aS.below b3
                clear hbx aS b3 sN
                have aS5 := aS4.alloc (.cells #[.string (bstr (nmAt j)), .int .i64 1] 45)
                have sl5 := sl2 w3 ⟨nmAt j, 1⟩
                have bn5 := below_alloc1 w3 (.cells #[.string (bstr (nmAt j)), .int .i64 1] 45)
                have hb5 := hb4.trans (bn5.mono hb4.size)
                have Hbs := Lib.hid hb5.size
                simp only [Hd.cells] at sl5
                clear aS4 hb4 bn5
                go_wp2_with (at_builtin; refine wpList_app _ rfl (.tmp 86) (.tmp 93) 43 rfl wq.heap.size 45 (Hd.v ⟨[], 0⟩) 2 24 Try.underlying43 infoHd rfl (by decide) SA j sc (flatH hs) rfl aS5 (some ⟨w3.heap.size, 0, none⟩) 1 1 (Hd.cells ⟨nmAt j, 1⟩) rfl sl5 (hdCells_one _) (by unfold maxLen; omega) (by omega) Hbs.out ?_; intro A10 d8 w8 hat8)
                have hb8 := hb5.trans ((hat8.below Hbs.out).mono (Nat.le_refl _))
                have ha10 := hat8.app
                go_roundw
                case rel => exact ⟨j + 1, hs ++ [⟨nmAt j, 1⟩], A10, d8, by omega, by go_num, rfl, by rw [flatH_snoc]; exact ha10, HS1, hb8⟩
                case measure => simp [intOf]; omega
            · obtain rfl : j = k := by omega
              clear hCx
              obtain ⟨fr, kq, q1, hpk, hgr, hQr, hNr, hat, hq1, hcs⟩ := pick_step hn1 hn5 HG.out HN.out.1 HN.out.2.1 HN.out.2.2 HS.out
              have HG1 := Lib.hid hgr
              have HQ1 := Lib.hid hQr
              have HNr := Lib.hid hNr
              have Hpk1 := Lib.hid hpk
              have Hp4 := Lib.hid hat
              have Hp5 := Lib.hid hq1
              have Hcs := Lib.hid hcs
              have Hmy := Lib.hid (HS.out.may HN.out.2.1)
              have Hne := Lib.hid (show hs ≠ [] from fun h => by have := HS.out.len hn5; rw [h] at this; simp at this; omega)
              clear hpk hgr hQr hNr hat hq1 hcs HS
              have sH := aS.sl
              have oF7 := oF.below hbx
              have sF7 := sF.below hbx
              have aT7 := aT.below hbx
              have hLT7 := hLT.size hbx.size
              have hLA7 := hLA.size hbx.size
              have bG := bF.trans (hbx.mono bF.size)
              have hsz7 := Nat.le_trans hsz hbx.size
              clear aS oF sF aT hLT hLA bF hbx hsz
              have Hgw := Lib.hid (show wa.heap.size < wr.heap.size from (World.ownsRow.lt oF7 wa.heap.size rfl).2)
              have y0 := World.ownsRow.cellAt oF7 0 (by omega)
              have y1 := World.ownsRow.cellAt oF7 1 (by omega)
              have y2 := World.ownsRow.cellAt oF7 2 (by omega)
              have y3 := World.ownsRow.cellAt oF7 3 (by omega)
              simp only [frC, List.getElem?_cons_succ, List.getElem?_cons_zero] at y0 y1 y2 y3
              go_wp2_with fail
              refine (pick_any f fr hs 10 kq q1 A1 SA c1 j sc _ sF7 sH (by omega) HG.out Hmy.out Hne.out Hpk1.out Hp4.out Hp5.out).mono ?_; rintro x w7 ⟨A7, c7, rfl, s7, b7, f7⟩
              have oF8 := oF7.below b7
              have aT8 := aT7.below b7
              have hLT8 := hLT7.size b7.size
              have bH := bG.trans (b7.mono bG.size)
              have hsz8 := Nat.le_trans hsz7 b7.size
              have hAp8 : Apart A7 TA := fun a b ha hb => by have := f7 a ha; have := hLT7 b hb; omega
              have hLA8 : Lts A7 w7 := fun a ha => by
                subst ha
                obtain ⟨t0, ht0⟩ := get_some fr.ts kq (List.getElem?_eq_some_iff.1 Hp5.out).1
                have h3 := slT_three s7 ht0
                have := World.block_lt_of_cell? _ _ h3.1
                rwa [show (a.add (kq * 3)).block = a.block by unfold Addr.add; split <;> rfl] at this
              have hf7 : ∀ a, A7 = some a → a.block ≠ wa.heap.size := fun a ha he => by
                have := f7 a ha
                have := Hgw.out
                omega
              clear y0 y1 y2 y3 sF7 sH oF7 aT7 hLT7 hLA7 hAp bG b7 f7 hsz7
              have o8 : Own w7.heap.size 36 1 (w7.alloc (.cells (frC fr.Q A7 fr.ts.length c7 fr.At fr.H).toArray 36)) (some ⟨w7.heap.size, 0, none⟩) 4 4 (frC fr.Q A7 fr.ts.length c7 fr.At fr.H) := new_own w7 (frC fr.Q A7 fr.ts.length c7 fr.At fr.H) 36 4 rfl (by unfold maxLen; omega)
              have b8 := below_alloc1 w7 (.cells (frC fr.Q A7 fr.ts.length c7 fr.At fr.H).toArray 36)
              have oF9 := oF8.below b8
              have aT9 := aT8.below b8
              have s9 := s7.below b8
              have hLT9 := hLT8.size b8.size
              have hLA9 := hLA8.size b8.size
              have bI := bH.trans (b8.mono bH.size)
              have hsz9 := Nat.le_trans hsz8 b8.size
              simp only [frC] at o8 oF9 aT9 s9 bI hLT9 hLA9 hsz9
              clear b8 oF8 aT8 s7 bH hLT8 hLA8 hsz8
              unfold frV
              go_upto_region 28 with fail
              generalize w7.alloc (.cells #[.int .i64 fr.Q, .slice A7 fr.ts.length c7, .int .i64 fr.At, .bool fr.H] 36) = w8 at *
              have z0 := World.ownsRow.cellAt o8 0 (by omega)
              have z1 := World.ownsRow.cellAt o8 1 (by omega)
              have z2 := World.ownsRow.cellAt o8 2 (by omega)
              have z3 := World.ownsRow.cellAt o8 3 (by omega)
              simp only [List.getElem?_cons_succ, List.getElem?_cons_zero] at z0 z1 z2 z3
              have y0 := World.ownsRow.cellAt oF9 0 (by omega)
              have y1 := World.ownsRow.cellAt oF9 1 (by omega)
              have y2 := World.ownsRow.cellAt oF9 2 (by omega)
              have y3 := World.ownsRow.cellAt oF9 3 (by omega)
              simp only [List.getElem?_cons_succ, List.getElem?_cons_zero] at y0 y1 y2 y3
              have x0 := World.ownsRow.frozenAt oF9 0
              have x1 := World.ownsRow.frozenAt oF9 1
              have x2 := World.ownsRow.frozenAt oF9 2
              have x3 := World.ownsRow.frozenAt oF9 3
              have st := stored4 oF9 (.int .i64 fr.Q) (.slice A7 fr.ts.length c7) (.int .i64 fr.At) (.bool fr.H)
              have s10 := s9.grown st.2 (fun a ha he => hf7 a ha (Option.some.inj he))
              have aT10 := aT9.kept st.2 (fun b hb he => HTw.out b hb (Option.some.inj he))
              have bJ := bI.grown st.2 bI.size (fun j hj => by cases hj; omega)
              have hLT10 := hLT9.size st.2.size
              have hLA10 := hLA9.size st.2.size
              have hsz10 := Nat.le_trans hsz9 st.2.size
              have oK := st.1
              clear st s9 aT9 bI o8 oF9 hLT9 hLA9 hsz9
              by_cases hnl : q1.N = last
              · have Hst := Lib.hid (show TurnSt j T last fr by
                  rcases Hcs.out with h | h
                  · exact h.2
                  · exact absurd hnl h.1)
                go_wp2_with fail
                go_roundw
                case rel => exact ⟨i + 1, T, last, fr, A7, TA, c7, tc, by omega, by omega, by go_num, rfl, rfl, aT10, oK, s10, hAp8, hLT10, hLA10, HTw, HG1, Lib.hid ⟨HQ1.out, HNr.out, Hst.out⟩, bJ, hsz10⟩
                case measure => simp [intOf]; omega
              · obtain ⟨hqN, hst0⟩ : q1.N = nmAt (T % j) ∧ TurnSt j (T + 1) q1.N fr := by
                  rcases Hcs.out with h | h
                  · exact absurd h.1 hnl
                  · exact h.2
                have Hst := Lib.hid hst0
                have HqN := Lib.hid hqN
                have hnb : (q1.N == last) = false := by simpa using hnl
                clear hst0 hqN hnl
                go_upto_region 31 with fail
                generalize (((w8.setCell ⟨wa.heap.size, 0, none⟩ (.int .i64 fr.Q)).setCell ⟨wa.heap.size, 1, none⟩ (.slice A7 fr.ts.length c7)).setCell ⟨wa.heap.size, 2, none⟩ (.int .i64 fr.At)).setCell ⟨wa.heap.size, 3, none⟩ (.bool fr.H) = w9 at *
                clear y0 y1 y2 y3 x0 x1 x2 x3 z0 z1 z2 z3
                have aT11 := aT10.alloc (.cells #[.string (bstr q1.N)] 9)
                have sl11 := sl_cells w9 [.string (bstr q1.N)] 9
                have bn11 := below_alloc1 w9 (.cells #[.string (bstr q1.N)] 9)
                have oK11 := oK.below bn11
                have s11 := s10.below bn11
                have bK := bJ.trans (bn11.mono bJ.size)
                have Hsz := Lib.hid (Nat.le_trans hsz10 bn11.size)
                have hLT11 := hLT10.size bn11.size
                have hLA11 := hLA10.size bn11.size
                clear aT10 bJ oK s10 hLT10 hLA10 hsz10
                go_wp2_with (at_builtin; refine wpList_app _ rfl (.tmp 109) (.tmp 111) 41 rfl _ 9 (.string (bstr [])) 1 16 Try.underlying41 infoStr rfl (by decide) TA T tc (turnV j T) rfl aT11 (some ⟨w9.heap.size, 0, none⟩) 1 1 [.string (bstr q1.N)] rfl sl11 (fun u hu => by simp at hu; subst hu; rfl) (by unfold maxLen; omega) (by omega) Hsz.out ?_; intro A10 d8 w10 hat8)
                have oK12 := oK11.keptRow hat8.grown HTw.out
                have s12 := s11.apartR hat8.grown hAp8
                have hap12 := (hAp8.symm.frm hat8.lies hLA11).symm
                have ha12 := hat8.app
                have hLT12 := ha12.lts (by simp)
                have hLA12 := hLA11.size hat8.grown.size
                have HTw12 := Lib.hid (show ∀ b, A10 = some b → b.block ≠ wa.heap.size from fun b hb => by
                  rcases hat8.lies b hb with ⟨a0, h0, e0⟩ | h1
                  · rw [← e0]; exact HTw.out a0 h0
                  · have := (World.ownsRow.lt oK11 wa.heap.size rfl).2; omega)
                have bL := bK.trans ((hat8.below Hsz.out).mono hbase)
                have hsz12 := Nat.le_trans Hsz.out hat8.grown.size
                go_roundw
                case rel => exact ⟨i + 1, T + 1, q1.N, fr, A7, A10, c7, d8, by omega, by omega, by go_num, rfl, rfl, by rw [turnV_snoc, ← HqN.out]; exact ha12, oK12, s12, hap12, hLT12, hLA12, HTw12, HG1, Lib.hid ⟨HQ1.out, HNr.out, Hst.out⟩, bL, hsz12⟩
                case measure => simp [intOf]; omega
        · obtain rfl : i = 80 := by omega
          have sT := aT.sl
          clear hC hW oF sF hAp hLT hLA HTw HG HN aT
          go_wp2_with fail
          go_loopw [117] (fun s117 wx => ∃ (j : Nat), j ≤ T ∧ s117 = .int .i64 (j : Int) ∧ Below wq.heap.size wq wx) (fun jv _ => T - (intOf jv).toNat)
          case atStart => exact ⟨0, by omega, rfl, Below.refl _ _⟩
          case round =>
            obtain ⟨j, hjT, rfl, hbx⟩ := hrel
            by_cases g4 : (j : Int) < (T : Int)
            · have sTx := sT.below hbx
              obtain ⟨adt, rfl, hct⟩ := sTx.cells j (.string (bstr (nmAt (j % k)))) (by rw [turnV, List.getElem?_map, List.getElem?_range (by omega)]; rfl)
              have hmk : j % k < k := Nat.mod_lt _ (by omega)
              have hmk5 : j % k < 5 := by omega
              have hinj : (0 : Int) ≤ (j : Int) ∧ (j : Int) < (T : Int) := by omega
              have hr0 : (j : Int).tmod (k : Int) = ((j % k : Nat) : Int) := by rw [Int.ofNat_tmod]
              have hr1 : ((j : Int).tmod (k : Int)).toNat = j % k := by rw [hr0, Int.toNat_natCast]
              have hr2 : 0 ≤ (j : Int).tmod (k : Int) := by rw [hr0]; omega
              have hr3 : (j : Int).tmod (k : Int) < 5 := by rw [hr0]; omega
              have Hj1 := Lib.hid (show j + 1 ≤ T by omega)
              clear hr0
              clear hmk
              go_upto_region 38 with fail
              --@region 4 38 rd38.spec
              refine wp_region_run (by kernel_rfl) (by kernel_rfl) ?_
              apply RunL.pure
              · intro vs w hb hd; clear hd; simp only [List.take, putL, Act.put, List.setIfInBounds_toArray, List.set_cons_zero, List.set_cons_succ]; unfold StepOK; go_simp; exact ⟨Below.refl _ _, isV_mk _ _⟩
              refine RunL.such (isNm) (isNm_stable) ?_ ?_
              · intro vs w hb hd; clear hd; simp only [List.take, putL, Act.put, List.setIfInBounds_toArray, List.set_cons_zero, List.set_cons_succ]; unfold StepOK; go_simp; exact ⟨Below.refl _ _, names_such _⟩
              apply RunL.pure
              · intro vs w hb hd; clear hd; simp only [List.take, putL, Act.put, List.setIfInBounds_toArray, List.set_cons_zero, List.set_cons_succ]; unfold StepOK; go_simp; exact ⟨Below.refl _ _, isV_mk _ _⟩
              apply RunL.pure
              · intro vs w hb hd; clear hd; simp only [List.take, putL, Act.put, List.setIfInBounds_toArray, List.set_cons_zero, List.set_cons_succ]; unfold StepOK; go_simp; exact ⟨Below.refl _ _, isV_mk _ _⟩
              apply RunL.pure
              · intro vs w hb hd; have d2 : isV _ (vs 2) w := hd 2 (by decide) (by kernel_rfl); unfold isV at d2; have d3 : isV _ (vs 3) w := hd 3 (by decide) (by kernel_rfl); unfold isV at d3; clear hd; have hkk : ¬ k = 0 := by { omega }; simp only [List.take, putL, Act.put, List.setIfInBounds_toArray, List.set_cons_zero, List.set_cons_succ]; unfold StepOK; go_simp; exact ⟨Below.refl _ _, isV_mk _ _⟩
              refine RunL.such (isNmAt (j % k)) (isNmAt_stable _) ?_ ?_
              · intro vs w hb hd; have d1 := hd 1 (by decide) (by kernel_rfl); simp only [TR, Nat.reduceAdd, Nat.reduceSub, List.getD_cons_zero, List.getD_cons_succ] at d1; have d4 : isV _ (vs 4) w := hd 4 (by decide) (by kernel_rfl); unfold isV at d4; clear hd; obtain ⟨A3, e1, s3⟩ := isNm_elim d1; obtain ⟨ad3, rfl, hcl⟩ := nm_at s3 hmk5; have hin := hr2; have hin2 := hr3; have hin1 := hr1; simp only [List.take, putL, Act.put, List.setIfInBounds_toArray, List.set_cons_zero, List.set_cons_succ]; unfold StepOK; go_simp; exact ⟨Below.refl _ _, _, rfl, hcl⟩
              refine RunL.such (isV (.string (bstr (nmAt (j % k))))) (isV_stable _) ?_ ?_
              · intro vs w hb hd; have d5 := hd 5 (by decide) (by kernel_rfl); simp only [TR, Nat.reduceAdd, Nat.reduceSub, List.getD_cons_zero, List.getD_cons_succ] at d5; clear hd; obtain ⟨ad3, e3, hcl⟩ := isNmAt_elim d5; simp only [List.take, putL, Act.put, List.setIfInBounds_toArray, List.set_cons_zero, List.set_cons_succ]; unfold StepOK; go_simp; exact ⟨Below.refl _ _, isV_mk _ _⟩
              apply RunL.pure
              · intro vs w hb hd; have d0 : isV _ (vs 0) w := hd 0 (by decide) (by kernel_rfl); unfold isV at d0; have d6 := hd 6 (by decide) (by kernel_rfl); simp only [TR, Nat.reduceAdd, Nat.reduceSub, List.getD_cons_zero, List.getD_cons_succ] at d6; clear hd; unfold isV at d6; simp only [List.take, putL, Act.put, List.setIfInBounds_toArray, List.set_cons_zero, List.set_cons_succ]; unfold StepOK; go_simp; exact ⟨Below.refl _ _, isV_mk _ _⟩
              intro vs w1 hb hd
              have e0 : isV _ (vs 0) w1 := hd 0 (by decide)
              have e1 := hd 1 (by decide); simp only [TR, Nat.reduceAdd, Nat.reduceSub, List.getD_cons_zero, List.getD_cons_succ] at e1
              have e2 : isV _ (vs 2) w1 := hd 2 (by decide)
              have e3 : isV _ (vs 3) w1 := hd 3 (by decide)
              have e4 : isV _ (vs 4) w1 := hd 4 (by decide)
              have e5 := hd 5 (by decide); simp only [TR, Nat.reduceAdd, Nat.reduceSub, List.getD_cons_zero, List.getD_cons_succ] at e5
              have e6 := hd 6 (by decide); simp only [TR, Nat.reduceAdd, Nat.reduceSub, List.getD_cons_zero, List.getD_cons_succ] at e6
              have e7 : isV _ (vs 7) w1 := hd 7 (by decide)
              clear hd
              unfold isV at e0 e2 e3 e4 e7
              simp only [putL, Act.put, List.setIfInBounds_toArray, List.set_cons_zero, List.set_cons_succ, e0, e2, e3, e4, e7]
              clear e0 e2 e3 e4 e7
              --@end
              have hb2 := hbx.trans (hb.mono hbx.size)
              go_wp2_with fail
              go_roundw
              case rel => exact ⟨j + 1, Hj1.out, by go_num, hb2⟩
              case measure => have := Hj1.out; simp [intOf]; omega
            · go_wp2_with (go_at_call 23; refine (awake17_any _).mono ?_; rintro x w6 ⟨rfl, hn6⟩)
              go_ret
              exact ⟨rfl, bF.trans ((hbx.trans (hn6.mono hbx.size)).mono bF.size)⟩
end Go.Proofs.Ytphjmbhlokkdiaa
