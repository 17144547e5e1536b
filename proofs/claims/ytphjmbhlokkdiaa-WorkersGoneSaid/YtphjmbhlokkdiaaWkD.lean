import Derived.Test.YtphjmbhlokkdiaaWkC
/- The workers: one that leaves; a sign of life. -/
namespace Go.Proofs.Ytphjmbhlokkdiaa
open Go.RowKit Go.Proofs.YtphjmbhlokkdiaaW.PrintWords Go.Proofs.YtphjmbhlokkdiaaW.PrintLast Go.Proofs.YtphjmbhlokkdiaaW.PrintMore
set_option linter.unusedSimpArgs false
set_option linter.unusedVariables false

theorem Own.newblock {base size n c : Nat} {e : TypeId} {w : World} {A : Option Addr} {cs : List Value} (h : Own base e size w A n c cs) : ∀ a, A = some a → base ≤ a.block ∧ a.block < w.heap.size := fun a ha => by
  subst ha
  exact World.ownsRow.lt h a.block rfl
set_option maxRecDepth 100000 in
set_option maxHeartbeats 2000000 in
theorem leaveW_any (A : Option Addr) (m d : Nat) (xs : List Wk) (id : Int) (w : World) (hs : Sl w 2 A m d (flatW xs)) (hm : m ≤ 1000000) :
    Calls Try.prog 35 #[.slice A m d, .int .i64 id] w fun e w' => ∃ A' n' c', e = .returned (.tuple #[.slice A' n' c', .int .i64 (leaveW xs id).2]) ∧ Sl w' 2 A' n' c' (flatW (leaveW xs id).1) ∧ Below w.heap.size w w' := by
  have hb0 := below_alloc1 w (.cells #[.int .i64 id] 3)
  have hmf : ∀ (fn : Fn) (first cap : Array Value) (w : World), (Instr.makeFunc fn first cap).run Try.prog w = .ok (.func fn first cap) w := fun _ _ _ _ => rfl
  have hs0 := hs.below hb0
  have hc : (w.alloc (.cells #[.int .i64 id] 3)).cell? ⟨w.heap.size, 0, none⟩ = some (.int .i64 id) := by
    obtain ⟨a, h1, h2⟩ := (sl_cells w [.int .i64 id] 3).cells 0 _ rfl
    cases h1
    exact h2
  have hz0 : w.heap.size < (w.alloc (.cells #[.int .i64 id] 3)).heap.size := by simp
  obtain ⟨W0, hW0⟩ : ∃ W0, W0 = w.alloc (.cells #[.int .i64 id] 3) := ⟨_, rfl⟩
  go_enter Try.func35, Try.ntmps35
  go_wp2_with fail
  refine (cloneW_any A m d xs _ hs0 hm).mono ?_; rintro x w1 ⟨A1, c1, rfl, o1, hb1⟩
  have hs1 := hs0.below hb1
  have hc1 := (World.cell?_of_block (hb1.block _ hz0)).trans hc
  have hn1 := Own.newblock o1
  have o1 := Own.lower o1 (base' := w.heap.size) hb0.size
  have hbw := hb0.trans (hb1.mono hb0.size)
  have hz1 := Nat.lt_of_lt_of_le hz0 hb1.size
  have hne : ∀ a, A1 = some a → a.block ≠ w.heap.size := fun a ha => by have := hn1 a ha; omega
  have Hne := Lib.hid hne
  clear hs0 hc hz0 hb1 hb0 hn1 hne hs hW0
  go_wp2_with fail
  refine (wright_any A m d xs _ hs1 hm).mono ?_; rintro x w2 ⟨rfl, hb2⟩
  have hs2 := hs1.below hb2
  have o2 := Own.below o1 hb2
  have hc2 := (World.cell?_of_block (hb2.block _ hz1)).trans hc1
  have hbw2 := hbw.trans (hb2.mono hbw.size)
  have hz2 := Nat.lt_of_lt_of_le hz1 hb2.size
  clear hs1 o1 hc1 hz1 hbw hb2
  obtain ⟨z, hz⟩ : ∃ z, rightW xs = z := ⟨_, rfl⟩
  rw [hz]
  have Hz := Lib.hid hz
  clear hz
  cases z with
  | false =>
    have HL := Lib.hid (show leaveW xs id = (xs, 112) by simp [leaveW, Hz.out])
    go_wp2_with fail
    go_ret2
    rw [HL.out]
    exact ⟨A1, m, c1, rfl, o2.sl, hbw2⟩
  | true =>
    go_wp2_with fail
    refine (knownW_any A m d xs id _ hs2 hm).mono ?_; rintro x w3 ⟨rfl, hb3⟩
    have o3 := Own.below o2 hb3
    have hc3 := (World.cell?_of_block (hb3.block _ hz2)).trans hc2
    have hbw3 := hbw2.trans (hb3.mono hbw2.size)
    clear hs2 o2 hc2 hz2 hbw2 hb3
    obtain ⟨y, hy⟩ : ∃ y, knownW xs id = y := ⟨_, rfl⟩
    rw [hy]
    have Hy := Lib.hid hy
    clear hy
    cases y with
    | false =>
      have HL := Lib.hid (show leaveW xs id = (xs, 110) by simp [leaveW, Hz.out, Hy.out])
      go_wp2_with fail
      go_ret2
      rw [HL.out]
      exact ⟨A1, m, c1, rfl, o3.sl, hbw3⟩
    | true =>
      have HL := Lib.hid (show leaveW xs id = (xs.filter (keepW id), 0) by simp [leaveW, Hz.out, Hy.out]; rfl)
      go_wp2_with fail
      refine (delW_any w.heap.size w.heap.size A1 m c1 xs id _ o3 hm hc3 Hne.out).mono ?_; rintro x w4 ⟨A4, n4, c4, rfl, s4, hg4⟩
      have hbw4 := hbw3.grown hg4 hbw3.size (fun k hk => rowOf_ge hk)
      go_wp2_with fail
      go_ret2
      rw [HL.out]
      exact ⟨A4, n4, c4, rfl, s4, hbw4⟩
def lateW (xs : List Wk) (id now : Int) : Bool := match xs[posW xs id]? with | some x => decide (x.f0 = id) && decide (now < x.f1) | none => false
def seenW (xs : List Wk) (id now : Int) : List Wk × Int :=
  if rightW xs = false then (xs, 112)
  else if id < 1 ∨ now < 0 ∨ 1099511627776 < now ∨ lateW xs id now = true then (xs, 2)
  else if thereW xs id = true then (xs.set (posW xs id) ⟨id, now⟩, 0)
  else if 50 ≤ xs.length then (xs, 5)
  else (xs.take (posW xs id) ++ ⟨id, now⟩ :: xs.drop (posW xs id), 0)
theorem there_true {xs : List Wk} {id : Int} (h : thereW xs id = true) : ∃ t, xs[posW xs id]? = some t ∧ t.f0 = id := by
  unfold thereW at h
  cases hx : xs[posW xs id]? with
  | none => rw [hx] at h; cases h
  | some t => rw [hx] at h; exact ⟨t, rfl, by simpa using h⟩
theorem late_there {xs : List Wk} {id now : Int} {t : Wk} (h : xs[posW xs id]? = some t) (he : t.f0 = id) : lateW xs id now = decide (now < t.f1) := by simp [lateW, h, he]
theorem late_none {xs : List Wk} {id now : Int} (h : thereW xs id = false) : lateW xs id now = false := by
  unfold thereW at h
  unfold lateW
  cases hx : xs[posW xs id]? with
  | none => rfl
  | some t => rw [hx] at h; simp at h; simp [h]

set_option maxRecDepth 100000 in
set_option maxHeartbeats 4000000 in
theorem seenW_any (A : Option Addr) (m d : Nat) (xs : List Wk) (id now : Int) (w : World) (hs : Sl w 2 A m d (flatW xs)) (hm : m ≤ 1000000) :
    Calls Try.prog 33 #[.slice A m d, .int .i64 id, .int .i64 now] w fun e w' => ∃ A' n' c', e = .returned (.tuple #[.slice A' n' c', .int .i64 (seenW xs id now).2]) ∧ Sl w' 2 A' n' c' (flatW (seenW xs id now).1) ∧ Below w.heap.size w w' := by
  have hl := slW_len hs
  have Hl := Lib.hid hl
  clear hl
  go_enter Try.func33, Try.ntmps33
  go_wp2_with fail
  refine (cloneW_any A m d xs _ hs hm).mono ?_; rintro x w1 ⟨A1, c1, rfl, o1, hb1⟩
  have hs1 := hs.below hb1
  clear hs
  go_wp2_with fail
  refine (wright_any A m d xs _ hs1 hm).mono ?_; rintro x w2 ⟨rfl, hb2⟩
  have hs2 := hs1.below hb2
  have o2 := Own.below o1 hb2
  have hbw2 := hb1.trans (hb2.mono hb1.size)
  clear hs1 o1 hb1 hb2
  obtain ⟨z, hz⟩ : ∃ z, rightW xs = z := ⟨_, rfl⟩
  rw [hz]
  have Hz := Lib.hid hz
  clear hz
  cases z with
  | false =>
    have HL := Lib.hid (show seenW xs id now = (xs, 112) by simp [seenW, Hz.out])
    go_wp2_with fail
    go_ret2
    rw [HL.out]
    exact ⟨A1, m, c1, rfl, o2.sl, hbw2⟩
  | true =>
    go_wp2_with fail
    refine (placeW_any A m d xs id _ hs2 hm (rightW_sorted Hz.out)).mono ?_; rintro x w3 ⟨rfl, hb3⟩
    have hs3 := hs2.below hb3
    have o3 := Own.below o2 hb3
    have hbw3 := hbw2.trans (hb3.mono hbw2.size)
    clear hs2 o2 hbw2 hb3
    have hpl := posW_le xs id
    rw [Hl.out] at hpl
    obtain ⟨p, hp⟩ : ∃ p, posW xs id = p := ⟨_, rfl⟩
    obtain ⟨y, hy⟩ : ∃ y, thereW xs id = y := ⟨_, rfl⟩
    rw [hp, hy]
    rw [hp] at hpl
    have Hp := Lib.hid hp
    have Hy := Lib.hid hy
    clear hp hy
    by_cases hbad : id < 1 ∨ now < 0 ∨ 1099511627776 < now
    · have HL := Lib.hid (show seenW xs id now = (xs, 2) by unfold seenW; rw [if_neg (by simp [Hz.out]), if_pos (by rcases hbad with h | h | h; exact .inl h; exact .inr (.inl h); exact .inr (.inr (.inl h)))])
      by_cases h1 : id < 1
      · go_wp2_with fail
        go_ret2
        rw [HL.out]
        exact ⟨A1, m, c1, rfl, o3.sl, hbw3⟩
      by_cases h2 : now < 0
      · go_wp2_with fail
        go_ret2
        rw [HL.out]
        exact ⟨A1, m, c1, rfl, o3.sl, hbw3⟩
      have h3 : 1099511627776 < now := by omega
      go_wp2_with fail
      go_ret2
      rw [HL.out]
      exact ⟨A1, m, c1, rfl, o3.sl, hbw3⟩
    · have h1 : ¬ id < 1 := by omega
      have h2 : ¬ now < 0 := by omega
      have h3 : ¬ 1099511627776 < now := by omega
      cases y with
      | true =>
        obtain ⟨t, ht, hid⟩ := there_true Hy.out
        have hlt := late_there (now := now) ht hid
        rw [Hp.out] at ht
        have hpm : p < m := by have := (List.getElem?_eq_some_iff.1 ht).1; have := Hl.out; omega
        obtain ⟨ad, rfl⟩ := slW_addr hs3 ht
        obtain ⟨y0, y1⟩ := slW_two hs3 ht
        have hin : (0 : Int) ≤ (p : Int) ∧ (p : Int) < (m : Int) := by omega
        by_cases h4 : now < t.f1
        · have HL := Lib.hid (show seenW xs id now = (xs, 2) by unfold seenW; rw [if_neg (by simp [Hz.out]), if_pos (by right; right; right; rw [hlt]; simpa using h4)])
          clear hlt hid ht hbad
          go_wp2_with fail
          go_ret2
          rw [HL.out]
          exact ⟨A1, m, c1, rfl, o3.sl, hbw3⟩
        · have HL := Lib.hid (show seenW xs id now = (xs.set p ⟨id, now⟩, 0) by
            unfold seenW
            rw [if_neg (by simp [Hz.out]), if_neg (by rw [hlt]; simp; omega), if_pos Hy.out, Hp.out])
          have Hset := Lib.hid (flatW_set1 xs p t now ht)
          have Hid := Lib.hid hid
          have hAd : ∃ g, A1 = some ⟨g, 0, none⟩ := by
            rcases o3.2 with ⟨h0, h00⟩ | ⟨g, cap, cur, h0, _⟩
            · omega
            · simp at h0; exact ⟨g, h0.1⟩
          obtain ⟨g, rfl⟩ := hAd
          obtain ⟨z0, z1⟩ := ownW_two o3 ht
          have f1 := World.ownsRow.frozenAt o3 (p * 2 + 1)
          have st := World.ownsRow.stored o3 (p * 2 + 1) (.int .i64 now)
          have o4 := st.1
          have hbw4 := hbw3.grown st.2 hbw3.size (fun k hk => by cases hk; exact (World.ownsRow.lt o3 g rfl).1)
          clear st hlt hid ht hbad
          go_wp2_with fail
          go_ret2
          rw [HL.out]
          refine ⟨_, _, _, rfl, ?_, hbw4⟩
          have := (show Own w.heap.size 115 2 _ _ _ _ _ from o4).sl
          rw [Hset.out, Hid.out] at this
          exact this
      | false =>
        have hlt := late_none (now := now) Hy.out
        by_cases h5 : 50 ≤ m
        · have HL := Lib.hid (show seenW xs id now = (xs, 5) by
            unfold seenW
            rw [if_neg (by simp [Hz.out]), if_neg (by rw [hlt]; simp; omega), if_neg (by rw [Hy.out]; simp), if_pos (by rw [Hl.out]; exact h5)])
          clear hlt hbad
          go_wp2_with fail
          go_ret2
          rw [HL.out]
          exact ⟨A1, m, c1, rfl, o3.sl, hbw3⟩
        · have HL := Lib.hid (show seenW xs id now = (xs.take p ++ ⟨id, now⟩ :: xs.drop p, 0) by
            unfold seenW
            rw [if_neg (by simp [Hz.out]), if_neg (by rw [hlt]; simp; omega), if_neg (by rw [Hy.out]; simp), if_neg (by rw [Hl.out]; exact h5), Hp.out])
          have bn := below_alloc1 w3 (.cells #[.int .i64 id, .int .i64 now] 115)
          have o4 := Own.below o3 bn
          have hbw4 := hbw3.trans (bn.mono hbw3.size)
          have hn4 := Own.newblock o3
          have hx4 : (w3.alloc (.cells #[.int .i64 id, .int .i64 now] 115)).heap[w3.heap.size]? = some (.cells [.int .i64 id, .int .i64 now].toArray 115 (0, 0)) := Array.getElem?_push_size
          clear hlt hbad bn hs3
          go_wp2_with fail
          refine (insW_any w.heap.size A1 m c1 p w3.heap.size (flatW xs) [.int .i64 id, .int .i64 now] _ o4 hm hpl (fun a ha => by have := hn4 a ha; omega) hx4 rfl (fun u hu => by simp at hu; rcases hu with rfl | rfl <;> rfl) (wk_one xs) hbw4.size).mono ?_; rintro x w5 ⟨A5, c5, rfl, o5, hg5⟩
          have hbw5 := hbw4.grown hg5 hbw4.size (fun k hk => rowOf_ge hk)
          go_wp2_with fail
          go_ret2
          rw [HL.out]
          refine ⟨A5, m + 1, c5, rfl, ?_, hbw5⟩
          have := (show Own w.heap.size 115 2 _ _ _ _ _ from o5).sl
          have e1 : (flatW xs).take (p * 2) = flatW (xs.take p) := flatMap_take wkC 2 (fun _ => rfl) xs p
          have e2 : (flatW xs).drop (p * 2) = flatW (xs.drop p) := flatMap_drop wkC 2 (fun _ => rfl) xs p
          rw [e1, e2] at this
          have e3 : flatW (xs.take p ++ ⟨id, now⟩ :: xs.drop p) = flatW (xs.take p) ++ ([.int .i64 id, .int .i64 now] ++ flatW (xs.drop p)) := by simp [flatW, wkC]
          rw [e3]
          exact this
end Go.Proofs.Ytphjmbhlokkdiaa
