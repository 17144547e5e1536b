import Derived.Test.YtphjmbhlokkdiaaLawWkMore
import Derived.Maps.OwnSet
/- WorkersGone, plain: the workers' list beside the map of who was seen. -/
namespace Go.Proofs.Ytphjmbhlokkdiaa
open Go.RowKit Go.Maps Go.WideShapes Go.WideMaps Go.Proofs.YtphjmbhlokkdiaaW.PrintWords Go.Proofs.YtphjmbhlokkdiaaW.PrintLast Go.Proofs.YtphjmbhlokkdiaaW.PrintMore
set_option linter.unusedSimpArgs false
set_option linter.unusedVariables false

theorem chk_iff : ∀ (xs : List Wk) (last : Int), chkW last xs = true ↔ (∀ x ∈ xs, last < x.f0 ∧ 0 ≤ x.f1 ∧ x.f1 ≤ 1099511627776) ∧ xs.Pairwise (fun a b => a.f0 < b.f0)
  | [], last => by simp [chkW]
  | x :: r, last => by
    rw [chkW]
    simp only [Bool.and_eq_true, decide_eq_true_eq, chk_iff r x.f0, List.pairwise_cons, List.mem_cons, forall_eq_or_imp]
    constructor
    · rintro ⟨h1, h2, h3, h4, h5⟩
      exact ⟨⟨⟨h1, h2, h3⟩, fun y hy => by have := h4 y hy; omega⟩, fun y hy => (h4 y hy).1, h5⟩
    · rintro ⟨⟨⟨h1, h2, h3⟩, h4⟩, h5, h6⟩
      exact ⟨h1, h2, h3, fun y hy => ⟨h5 y hy, (h4 y hy).2⟩, h6⟩
theorem right_iff (xs : List Wk) : rightW xs = true ↔ ((∀ x ∈ xs, 0 < x.f0 ∧ 0 ≤ x.f1 ∧ x.f1 ≤ 1099511627776) ∧ xs.Pairwise (fun a b => a.f0 < b.f0)) ∧ xs.length ≤ 50 := by
  unfold rightW
  rw [Bool.and_eq_true, chk_iff]
  simp
theorem known_iff (xs : List Wk) (id : Int) : knownW xs id = true ↔ ∃ x ∈ xs, x.f0 = id := by simp [knownW]
structure InvW (xs : List Wk) (now : Int) : Prop where
  all : ∀ x ∈ xs, (0 < x.f0 ∧ 0 ≤ x.f1 ∧ x.f1 ≤ 1099511627776) ∧ x.f1 ≤ now ∧ x.f0 ≤ 60
  pw : xs.Pairwise (fun a b => a.f0 < b.f0)
  len : xs.length ≤ 50
theorem InvW.right {xs : List Wk} {now : Int} (h : InvW xs now) : rightW xs = true := (right_iff xs).2 ⟨⟨fun x hx => (h.all x hx).1, h.pw⟩, h.len⟩
theorem InvW.later {xs : List Wk} {now now' : Int} (h : InvW xs now) (hn : now ≤ now') : InvW xs now' := ⟨fun x hx => ⟨(h.all x hx).1, by have := (h.all x hx).2.1; omega, (h.all x hx).2.2⟩, h.pw, h.len⟩
theorem InvW.one {xs : List Wk} {now : Int} (h : InvW xs now) {x y : Wk} (hx : x ∈ xs) (hy : y ∈ xs) (he : x.f0 = y.f0) : x = y := by
  obtain ⟨i, hi⟩ := List.mem_iff_getElem?.1 hx
  obtain ⟨j, hj⟩ := List.mem_iff_getElem?.1 hy
  have hso := rightW_sorted h.right
  rcases Nat.lt_trichotomy i j with hlt | rfl | hgt
  · have := hso _ _ x y hlt hi hj; omega
  · rw [hi] at hj; cases hj; rfl
  · have := hso _ _ y x hgt hj hi; omega
structure MapW (D : DataW Unit) (xs : List Wk) : Prop where
  size : Maps.size D = xs.length
  has : ∀ i : Int, Maps.has D (.int .i64 i) = knownW xs i
  at_ : ∀ x ∈ xs, ∀ z, D.atKey (.int .i64 x.f0) z = .lit (.int .i64 x.f1)
theorem mapW_nil : MapW (.map []) [] := ⟨rfl, fun _ => rfl, by simp⟩
theorem invW_nil (now : Int) : InvW [] now := ⟨by simp, List.Pairwise.nil, by simp⟩
theorem filter_len (id : Int) : ∀ xs : List Wk, xs.Pairwise (fun a b => a.f0 < b.f0) → (xs.filter (fun x => !decide (x.f0 = id))).length + (if knownW xs id then 1 else 0) = xs.length
  | [], _ => rfl
  | x :: r, h => by
    rw [List.pairwise_cons] at h
    have ih := filter_len id r h.2
    by_cases hx : x.f0 = id
    · have hk : knownW r id = false := by
        rw [← Bool.not_eq_true, known_iff]
        rintro ⟨y, hy, hy0⟩
        have := h.1 y hy
        omega
      rw [hk] at ih
      have : knownW (x :: r) id = true := (known_iff _ _).2 ⟨x, List.mem_cons_self, hx⟩
      rw [this]
      simp only [List.filter_cons, hx, decide_true, Bool.not_true, Bool.false_eq_true, if_false, if_true, List.length_cons] at ih ⊢
      omega
    · have : knownW (x :: r) id = knownW r id := by simp [knownW, hx]
      rw [this]
      simp only [List.filter_cons, hx, decide_false, Bool.not_false, if_true, List.length_cons]
      omega
theorem leave_no {xs : List Wk} {now id : Int} (h : InvW xs now) (hk : knownW xs id = false) : leaveW xs id = (xs, 110) := by simp [leaveW, h.right, hk]
theorem leave_yes {xs : List Wk} {now id : Int} (h : InvW xs now) (hk : knownW xs id = true) : leaveW xs id = (xs.filter (fun x => !decide (x.f0 = id)), 0) := by simp [leaveW, h.right, hk]
theorem InvW.leave {xs : List Wk} {now : Int} (h : InvW xs now) (id : Int) : InvW (xs.filter (fun x => !decide (x.f0 = id))) now :=
  ⟨fun x hx => h.all x (List.mem_filter.1 hx).1, h.pw.filter _, Nat.le_trans (List.length_filter_le _ _) h.len⟩
theorem lit_ne {a b : Int} (h : a ≠ b) : Lit.int .i64 a ≠ Lit.int .i64 b := by simpa using h
theorem MapW.del {D : DataW Unit} {xs : List Wk} {now : Int} (m : MapW D xs) (h : InvW xs now) (T : Tidy D) (id : Int) : MapW (D.del (.int .i64 id)) (xs.filter (fun x => !decide (x.f0 = id))) := by
  refine ⟨?_, fun i => ?_, fun x hx z => ?_⟩
  · have h1 := size_del (k := .int .i64 id) T
    have h2 := filter_len id xs h.pw
    rw [m.has, m.size] at h1
    omega
  · by_cases hi : i = id
    · subst hi
      rw [has_del_same]
      symm
      rw [← Bool.not_eq_true, known_iff]
      rintro ⟨x, hx, hx0⟩
      have := (List.mem_filter.1 hx).2
      simp [hx0] at this
    · rw [has_del_other (lit_ne hi), m.has]
      rw [Bool.eq_iff_iff, known_iff, known_iff]
      constructor
      · rintro ⟨x, hx, rfl⟩
        exact ⟨x, List.mem_filter.2 ⟨hx, by simpa using hi⟩, rfl⟩
      · rintro ⟨x, hx, rfl⟩
        exact ⟨x, (List.mem_filter.1 hx).1, rfl⟩
  · obtain ⟨h1, h2⟩ := List.mem_filter.1 hx
    rw [atKey_del_other (lit_ne (by simpa using h2)), m.at_ x h1]
theorem there_known {xs : List Wk} {now : Int} (h : InvW xs now) (id : Int) : thereW xs id = knownW xs id := by
  rw [Bool.eq_iff_iff, known_iff]
  constructor
  · intro ht
    obtain ⟨t, ht, he⟩ := there_true ht
    exact ⟨t, List.mem_of_getElem? ht, he⟩
  · rintro ⟨x, hx, hx0⟩
    obtain ⟨j, hj⟩ := List.mem_iff_getElem?.1 hx
    have hso := rightW_sorted h.right
    have hp := posW_of (xs := xs) (id := id) (k := j) (by have := (List.getElem?_eq_some_iff.1 hj).1; omega) (fun i y hi hy => by have := hso i j y x hi hy hj; omega) (fun y hy => by rw [hj] at hy; cases hy; omega)
    unfold thereW
    rw [hp, hj]
    simpa using hx0
theorem not_late {xs : List Wk} {now id : Int} (h : InvW xs now) : lateW xs id now = false := by
  unfold lateW
  split
  · rename_i x hx
    have := (h.all x (List.mem_of_getElem? hx)).2.1
    simp only [Bool.and_eq_false_iff, decide_eq_false_iff_not]
    right
    omega
  · rfl
theorem seen_full {xs : List Wk} {now id : Int} (h : InvW xs now) (hi : 1 ≤ id) (hn : 0 ≤ now ∧ now ≤ 1099511627776) (hk : knownW xs id = false) (hl : 50 ≤ xs.length) : seenW xs id now = (xs, 5) := by
  unfold seenW
  rw [if_neg (by simp [h.right]), if_neg (by rw [not_late h]; simp; omega), if_neg (by rw [there_known h, hk]; simp), if_pos hl]
theorem seen_set {xs : List Wk} {now id : Int} (h : InvW xs now) (hi : 1 ≤ id) (hn : 0 ≤ now ∧ now ≤ 1099511627776) (hk : knownW xs id = true) : seenW xs id now = (xs.set (posW xs id) ⟨id, now⟩, 0) := by
  unfold seenW
  rw [if_neg (by simp [h.right]), if_neg (by rw [not_late h]; simp; omega), if_pos (by rw [there_known h, hk])]
theorem seen_ins {xs : List Wk} {now id : Int} (h : InvW xs now) (hi : 1 ≤ id) (hn : 0 ≤ now ∧ now ≤ 1099511627776) (hk : knownW xs id = false) (hl : ¬ 50 ≤ xs.length) : seenW xs id now = (xs.take (posW xs id) ++ ⟨id, now⟩ :: xs.drop (posW xs id), 0) := by
  unfold seenW
  rw [if_neg (by simp [h.right]), if_neg (by rw [not_late h]; simp; omega), if_neg (by rw [there_known h, hk]; simp), if_neg hl]
theorem take_lt (xs : List Wk) (id : Int) : ∀ y ∈ xs.take (posW xs id), y.f0 < id := by
  intro y hy
  obtain ⟨j, hj⟩ := List.mem_iff_getElem?.1 hy
  rw [List.getElem?_take] at hj
  split at hj
  · rename_i hlt
    obtain ⟨h1, h2⟩ := List.getElem?_eq_some_iff.1 hj
    have := List.not_of_lt_findIdx hlt
    rw [h2] at this
    simp at this
    omega
  · cases hj
theorem drop_gt {xs : List Wk} {now id : Int} (h : InvW xs now) (hk : knownW xs id = false) : ∀ y ∈ xs.drop (posW xs id), id < y.f0 := by
  intro y hy
  obtain ⟨j, hj⟩ := List.mem_iff_getElem?.1 hy
  rw [List.getElem?_drop] at hj
  have hne : y.f0 ≠ id := fun he => by
    have : knownW xs id = true := (known_iff _ _).2 ⟨y, List.mem_of_getElem? hj, he⟩
    rw [hk] at this; cases this
  have hp : posW xs id < xs.length := by have := (List.getElem?_eq_some_iff.1 hj).1; omega
  have h2 := List.findIdx_getElem (w := hp)
  have hge : id ≤ xs[posW xs id].f0 := of_decide_eq_true h2
  by_cases h0 : j = 0
  · subst h0
    rw [Nat.add_zero, List.getElem?_eq_getElem hp] at hj
    cases hj
    omega
  · have := rightW_sorted h.right (posW xs id) (posW xs id + j) _ y (by omega) (List.getElem?_eq_getElem hp) hj
    omega
theorem ins_mem {xs : List Wk} {p : Nat} {a x : Wk} : x ∈ xs.take p ++ a :: xs.drop p ↔ x = a ∨ x ∈ xs := by
  conv => rhs; rw [← List.take_append_drop p xs]
  simp only [List.mem_append, List.mem_cons]
  constructor
  · rintro (h | h | h)
    · exact .inr (.inl h)
    · exact .inl h
    · exact .inr (.inr h)
  · rintro (h | h | h)
    · exact .inr (.inl h)
    · exact .inl h
    · exact .inr (.inr h)
theorem InvW.ins {xs : List Wk} {now id : Int} (h : InvW xs now) (hi : 1 ≤ id ∧ id ≤ 60) (hn : 0 ≤ now ∧ now ≤ 1099511627776) (hk : knownW xs id = false) (hl : ¬ 50 ≤ xs.length) : InvW (xs.take (posW xs id) ++ ⟨id, now⟩ :: xs.drop (posW xs id)) now := by
  refine ⟨fun x hx => ?_, ?_, ?_⟩
  · rcases ins_mem.1 hx with rfl | hx
    · exact ⟨⟨by simp only; omega, hn.1, hn.2⟩, Int.le_refl _, hi.2⟩
    · exact h.all x hx
  · rw [List.pairwise_append, List.pairwise_cons]
    refine ⟨h.pw.sublist (List.take_sublist _ _), ⟨drop_gt h hk, h.pw.sublist (List.drop_sublist _ _)⟩, ?_⟩
    intro a ha b hb
    have h1 := take_lt xs id a ha
    rcases List.mem_cons.1 hb with rfl | hb
    · exact h1
    · have := drop_gt h hk b hb; omega
  · simp only [List.length_append, List.length_cons, List.length_take, List.length_drop]
    have := posW_le xs id
    omega
theorem ins_length (xs : List Wk) (id : Int) (a : Wk) : (xs.take (posW xs id) ++ a :: xs.drop (posW xs id)).length = xs.length + 1 := by
  simp only [List.length_append, List.length_cons, List.length_take, List.length_drop]
  have := posW_le xs id
  omega
theorem MapW.ins {D : DataW Unit} {xs : List Wk} {now id : Int} (m : MapW D xs) (h : InvW xs now) (T : Tidy D) (hk : knownW xs id = false) : MapW (D.put (.int .i64 id) (.lit (.int .i64 now))) (xs.take (posW xs id) ++ ⟨id, now⟩ :: xs.drop (posW xs id)) := by
  refine ⟨?_, fun i => ?_, fun x hx z => ?_⟩
  · rw [size_put T, m.has, hk, m.size, ins_length]; rfl
  · by_cases hi : i = id
    · subst hi
      rw [has_put_same T.isMap (by trivial)]
      exact ((known_iff _ _).2 ⟨_, ins_mem.2 (.inl rfl), rfl⟩).symm
    · rw [has_put_other (lit_ne hi), m.has, Bool.eq_iff_iff, known_iff, known_iff]
      constructor
      · rintro ⟨x, hx, rfl⟩; exact ⟨x, ins_mem.2 (.inr hx), rfl⟩
      · rintro ⟨x, hx, rfl⟩
        rcases ins_mem.1 hx with rfl | hx
        · exact absurd rfl hi
        · exact ⟨x, hx, rfl⟩
  · rcases ins_mem.1 hx with rfl | hx
    · rw [atKey_put_same T.isMap (by trivial)]
    · have hne : x.f0 ≠ id := fun he => by
        have : knownW xs id = true := (known_iff _ _).2 ⟨x, hx, he⟩
        rw [hk] at this; cases this
      rw [atKey_put_other (lit_ne hne), m.at_ x hx]
theorem set_mem {xs : List Wk} {now id : Int} (h : InvW xs now) (hk : knownW xs id = true) {x : Wk} : x ∈ xs.set (posW xs id) ⟨id, now⟩ ↔ x = ⟨id, now⟩ ∨ (x ∈ xs ∧ x.f0 ≠ id) := by
  obtain ⟨t, ht, he⟩ := there_true (by rw [there_known h, hk] : thereW xs id = true)
  have hp := (List.getElem?_eq_some_iff.1 ht).1
  constructor
  · intro hx
    obtain ⟨j, hj⟩ := List.mem_iff_getElem?.1 hx
    rw [List.getElem?_set] at hj
    split at hj
    · rename_i he2
      subst he2
      cases hj; exact .inl rfl
    · rename_i hne
      refine .inr ⟨List.mem_of_getElem? hj, fun he2 => hne ?_⟩
      have hso := rightW_sorted h.right
      rcases Nat.lt_trichotomy (posW xs id) j with hlt | h3 | hgt
      · have := hso _ _ t x hlt ht hj; omega
      · exact h3
      · have := hso _ _ x t hgt hj ht; omega
  · rintro (rfl | ⟨hx, hne⟩)
    · exact List.mem_iff_getElem?.2 ⟨posW xs id, by rw [List.getElem?_set_self hp]⟩
    · obtain ⟨j, hj⟩ := List.mem_iff_getElem?.1 hx
      refine List.mem_iff_getElem?.2 ⟨j, ?_⟩
      rw [List.getElem?_set_ne, hj]
      rintro rfl
      rw [ht] at hj; cases hj; exact hne he
theorem InvW.set {xs : List Wk} {now id : Int} (h : InvW xs now) (hi : 1 ≤ id ∧ id ≤ 60) (hn : 0 ≤ now ∧ now ≤ 1099511627776) (hk : knownW xs id = true) : InvW (xs.set (posW xs id) ⟨id, now⟩) now := by
  refine ⟨fun x hx => ?_, ?_, by rw [List.length_set]; exact h.len⟩
  · rcases (set_mem h hk).1 hx with rfl | ⟨hx, _⟩
    · exact ⟨⟨by simp only; omega, hn.1, hn.2⟩, Int.le_refl _, hi.2⟩
    · exact h.all x hx
  · obtain ⟨t, ht, he⟩ := there_true (by rw [there_known h, hk] : thereW xs id = true)
    obtain ⟨hp, h2⟩ := List.getElem?_eq_some_iff.1 ht
    have h1 : (xs.map (·.f0)).Pairwise (· < ·) := by rw [List.pairwise_map]; exact h.pw
    have h3 : (xs.set (posW xs id) ⟨id, now⟩).map (·.f0) = xs.map (·.f0) := by
      rw [List.map_set]
      apply List.ext_getElem?
      intro j
      rw [List.getElem?_set]
      split
      · rename_i hj
        subst hj
        simp [hp]
        rw [h2]; exact he.symm
      · rfl
    rw [← h3, List.pairwise_map] at h1
    exact h1
theorem MapW.set {D : DataW Unit} {xs : List Wk} {now id : Int} (m : MapW D xs) (h : InvW xs now) (T : Tidy D) (hk : knownW xs id = true) : MapW (D.put (.int .i64 id) (.lit (.int .i64 now))) (xs.set (posW xs id) ⟨id, now⟩) := by
  refine ⟨?_, fun i => ?_, fun x hx z => ?_⟩
  · rw [size_put T, m.has, hk, m.size, List.length_set]; rfl
  · by_cases hi : i = id
    · subst hi
      rw [has_put_same T.isMap (by trivial)]
      exact ((known_iff _ _).2 ⟨_, (set_mem h hk).2 (.inl rfl), rfl⟩).symm
    · rw [has_put_other (lit_ne hi), m.has, Bool.eq_iff_iff, known_iff, known_iff]
      constructor
      · rintro ⟨x, hx, rfl⟩; exact ⟨x, (set_mem h hk).2 (.inr ⟨hx, hi⟩), rfl⟩
      · rintro ⟨x, hx, rfl⟩
        rcases (set_mem h hk).1 hx with rfl | ⟨hx, _⟩
        · exact absurd rfl hi
        · exact ⟨x, hx, rfl⟩
  · rcases (set_mem h hk).1 hx with rfl | ⟨hx, hne⟩
    · rw [atKey_put_same T.isMap (by trivial)]
    · rw [atKey_put_other (lit_ne hne), m.at_ x hx]
theorem gone_mem {xs : List Wk} {now most : Int} (h : InvW xs now) (hm : 0 ≤ most) {x : Wk} (hx : x ∈ xs) : x.f0 ∈ goneW xs now most ↔ plusW x.f1 most < now := by
  unfold goneW goneL
  rw [if_pos (by simp [h.right, hm]), List.mem_map]
  constructor
  · rintro ⟨y, hy, he⟩
    rw [List.mem_filter] at hy
    obtain rfl := h.one hy.1 hx he
    simpa using hy.2
  · intro hlt
    exact ⟨x, List.mem_filter.2 ⟨hx, by simpa using hlt⟩, rfl⟩
theorem gone_known {xs : List Wk} {now most g : Int} (hg : g ∈ goneW xs now most) : knownW xs g = true := by
  unfold goneW goneL at hg
  split at hg
  · obtain ⟨y, hy, rfl⟩ := List.mem_map.1 hg
    exact (known_iff _ _).2 ⟨y, (List.mem_filter.1 hy).1, rfl⟩
  · cases hg
theorem plusW_small {a b : Int} (ha : 0 ≤ a ∧ a ≤ 100000) (hb : 0 ≤ b ∧ b ≤ 100000) : plusW a b = a + b := by
  unfold plusW mn mx
  repeat' split
  all_goals omega
theorem same_any (A B : Option Addr) (n n2 c d : Nat) (xs : List Wk) (w : World) (h1 : Sl w 2 A n c (flatW xs)) (h2 : Sl w 2 B n2 d (flatW xs)) (hm : n ≤ 100000) :
    Calls Try.prog 37 #[.slice A n c, .slice B n2 d] w fun e w' => e = .returned (.bool true) ∧ Below w.heap.size w w' := by
  obtain rfl := slW_len h1
  obtain rfl := slW_len h2
  exact (PWorkersTell.millwheellaw19_Same.calls (xs.length + 1) A c xs B d xs true _ (c_of_slW h1 (by omega)) h1.le (c_of_slW h2 (by omega)) h2.le (wsame_f xs hm _ (by omega))).mono fun e w' ⟨e1, e2⟩ => ⟨e1, e2.below⟩
theorem SeenI.del {D : DataW Unit} {l : List Int} (h : SeenI D l) (s : Int) : SeenI (D.del (.int .i64 s)) (l.filter (fun r => !decide (r = s))) := by
  intro r
  by_cases hr : r = s
  · subst hr
    rw [atKey_del_same]
    simp
  · rw [atKey_del_other (lit_ne hr), h r]
    simp [hr]
theorem left_mem {sn gs : List Int} {left : Lit → Bool} (h : ∀ g, g ∈ sn ↔ g ∈ gs ∧ left (.int .i64 g) = true) (s : Int) : ∀ g, g ∈ sn.filter (fun r => !decide (r = s)) ↔ g ∈ gs ∧ (left (.int .i64 g) && !(Lit.int .i64 g).sameKey (.int .i64 s)) = true := by
  intro g
  rw [List.mem_filter, h g]
  simp only [Lit.sameKey, true_and, Bool.and_eq_true, and_assoc]
theorem left_has {D : DataW Unit} {left : Lit → Bool} (h : ∀ kl, Maps.has D kl = true → left kl = true) (s : Int) : ∀ kl, Maps.has (D.del (.int .i64 s)) kl = true → (left kl && !kl.sameKey (.int .i64 s)) = true := by
  intro kl hk
  by_cases he : kl = .int .i64 s
  · subst he
    rw [has_del_same] at hk; cases hk
  · rw [has_del_other he] at hk
    rw [h kl hk, Maps.sameKey_ne he]; rfl
theorem size_zero {D : DataW Unit} (h : ∃ es, D = .map es ∧ es.Pairwise (fun p q => p.1 ≠ q.1) ∧ ∀ p ∈ es, WideAt.IsKeyLit p.1) (hn : ∀ kl, Maps.has D kl = false) : Maps.size D = 0 := by
  obtain ⟨es, rfl, _, hk⟩ := h
  cases es with
  | nil => rfl
  | cons p r =>
    have h1 := hn p.1
    have h2 := hk p List.mem_cons_self
    rw [Maps.has_eq] at h1
    simp only [List.any_cons, Bool.or_eq_false_iff] at h1
    have h3 : p.1.sameKey p.1 = true := by
      cases hp : p.1 <;> rw [hp] at h2 <;> simp [Lit.sameKey, WideAt.IsKeyLit] at h2 ⊢
    rw [h3] at h1
    cases h1.1
end Go.Proofs.Ytphjmbhlokkdiaa
