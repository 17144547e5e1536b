import Derived.Test.YtemegkapmgcffaaRkM
/- Roots: is, beside blocks that stay; none; made noughts. -/
namespace Go.Proofs.Ytemegkapmgcffaa
open Go.RowKit
set_option linter.unusedSimpArgs false
set_option linter.unusedVariables false

set_option maxRecDepth 100000 in
set_option maxHeartbeats 8000000 in
theorem is_m {W w : World} {p : Nat} {D : Dk} {L : List Rsl} {K : List (Nat × Obj)} (h : DskM W w p D L K) (s b : Int) (t : List UInt8) (ht : t.length ≤ 1000000) :
    Calls Try.prog 40 #[.pointer (some ⟨p, 0, none⟩), .int .i64 s, .int .i64 b, .string (bstr t)] w fun x w' => x = .returned (.bool (isRB D s b t)) ∧ DskM W w' p D L K := by
  obtain ⟨q, ok, e, hrd⟩ : ∃ q ok e, readRD D = (q, ok, e) := ⟨_, _, _, rfl⟩
  have HI := Lib.hid (show isRB D s b t = (decide (e = 0) && (decide (ok = decide (0 < s)) && (decide (q.s = s) && (decide (q.b = b) && (q.x == t))))) by unfold isRB; rw [hrd])
  have hc := rread_m h hrd
  clear h hrd
  go_enter Try.func40, Try.ntmps40
  go_wp2_with fail
  refine hc.mono ?_; rintro x w1 ⟨A, c, rfl, h1⟩
  clear hc
  have q0 := box_cellsR w1 [.int .i64 q.s, .int .i64 q.b, .slice A q.x.length c] 24 0 _ rfl
  have q1 := box_cellsR w1 [.int .i64 q.s, .int .i64 q.b, .slice A q.x.length c] 24 1 _ rfl
  have q2 := box_cellsR w1 [.int .i64 q.s, .int .i64 q.b, .slice A q.x.length c] 24 2 _ rfl
  have h2 := h1.below (below_alloc1 w1 (.cells #[.int .i64 q.s, .int .i64 q.b, .slice A q.x.length c] 24))
  go_upto_region 2 with fail
  obtain ⟨W2, hW2⟩ : ∃ W2, W2 = w1.alloc (.cells #[.int .i64 q.s, .int .i64 q.b, .slice A q.x.length c] 24) := ⟨_, rfl⟩
  have hT2 : (w1.alloc (.cells [Value.int .i64 q.s, .int .i64 q.b, .slice A q.x.length c].toArray 24)) = W2 := hW2.symm
  rw [hT2] at q0 q1 q2
  rw [← hW2] at h2 ⊢
  have H2 := Lib.hid h2
  clear h1 h2 hW2 hT2
  by_cases he : e = 0
  · subst he
    by_cases ho : ok = decide (0 < s)
    · have hz : (bstr t).size = t.length := rfl
      subst ho
      go_wp2_with fail
      rw [Lib.run_convert_string_bytes (P := Try.prog) _ 9 22 5 _ Try.underlying9 Try.underlying22 Try.underlying5]
      simp only [Result.andThen, Oper.upon]
      have hcs := conv_slR W2 t ht
      obtain ⟨wc, hwc⟩ : ∃ wc, wc = Lib.bytesWorld W2 5 (bstr t) := ⟨_, rfl⟩
      rw [← hwc] at hcs
      rw [← hwc, hz]
      clear hwc
      have H3 := Lib.hid (H2.out.below hcs.2)
      have hsl := H3.out.sl (List.mem_cons_self ..)
      have hsr := sameRoot_any q.s q.b s b A (some ⟨W2.heap.size, 0, none⟩) q.x.length c t.length (grownCap W2 t.length 0 5) q.x t wc hsl hcs.1
      clear hcs hsl q0 q1 q2
      go_wp2_with fail
      refine hsr.mono ?_; rintro x w4 ⟨rfl, b4⟩
      have H4 := Lib.hid (H3.out.below b4)
      have HF := Lib.hid (show isRB D s b t = (decide (q.s = s) && (decide (q.b = b) && (q.x == t))) by rw [HI.out]; simp)
      clear hsr b4
      go_wp2_with fail
      go_ret
      exact ⟨by rw [HF.out]; rfl, H4.out.sub (fun ρ hr => List.mem_cons_of_mem _ hr)⟩
    · have ho2 : (ok == decide (0 < s)) = false := by simpa using ho
      have HF := Lib.hid (show isRB D s b t = false by rw [HI.out]; simp [ho])
      clear ho
      go_wp2_with fail
      go_ret
      exact ⟨by rw [HF.out]; rfl, H2.out.sub (fun ρ hr => List.mem_cons_of_mem _ hr)⟩
  · have he2 : (e == 0) = false := by simpa using he
    have HF := Lib.hid (show isRB D s b t = false by rw [HI.out]; simp [he])
    clear he
    go_wp2_with fail
    go_ret
    exact ⟨by rw [HF.out]; rfl, H2.out.sub (fun ρ hr => List.mem_cons_of_mem _ hr)⟩
theorem DskM.lit {W w : World} {p : Nat} {D : Dk} {L : List Rsl} {K : List (Nat × Obj)} (h : DskM W w p D L K) (l : List UInt8) (fr : Nat × Nat) : DskM W (w.alloc (.cells (bytesV l).toArray 5 fr)) p D (⟨some ⟨w.heap.size, 0, none⟩, l.length, l.length, l⟩ :: L) K := by
  have hb := below_alloc1 w (.cells (bytesV l).toArray 5 fr)
  have h2 := h.below hb
  obtain ⟨F0, g1, g2, g3, g4⟩ := h
  refine ⟨F0, g1.below hb, g2.trans (hb.mono g2.size), fun σ hr => ?_, fun κ hk => ?_⟩
  · rcases List.mem_cons.1 hr with h5 | h5
    · subst h5
      exact ⟨sl_lit_mark w l 5 fr, fun hne a ha => by
        cases ha
        exact ⟨by simp, fun hf => by have := (g1.bound _ hf).2; simp only at this; omega⟩⟩
    · exact (g3 σ h5).below hb
  · have g := g4 κ hk
    exact ⟨(hb.block _ (heap_lt g.1)).trans g.1, g.2⟩
theorem DskM.addKs {W w w' : World} {p : Nat} {D : Dk} {L : List Rsl} {K : List (Nat × Obj)} (h : DskM W w p D L K) (hb : Below w.heap.size w w') (K2 : List (Nat × Obj)) (hK : ∀ κ, κ ∈ K2 → w.heap.size ≤ κ.1 ∧ w'.heap[κ.1]? = some κ.2) : DskM W w' p D L (K2 ++ K) := by
  obtain ⟨F, h1, h2, h3, h4⟩ := h
  refine ⟨F, h1.below hb, h2.trans (hb.mono h2.size), fun ρ hr => (h3 ρ hr).below hb, fun κ hk => ?_⟩
  rcases List.mem_append.1 hk with h5 | h5
  · obtain ⟨g1, g2⟩ := hK κ h5
    exact ⟨g2, fun hf => by have := (h1.bound _ hf).2; omega⟩
  · have k := h4 κ h5
    exact ⟨(hb.block _ (heap_lt k.1)).trans k.1, k.2⟩
theorem made_z {w : World} {base n : Nat} {A : Option Addr} {c : Nat} (h : w.ownsRow base 5 1 (.slice A n c) n (madeCells (Value.int .u8 0).cells (n * 1)).toList) : Own base 5 1 w A n c (bytesV (List.replicate n 0)) := by
  have e : (madeCells (Value.int .u8 0).cells (n * 1)).toList = bytesV (List.replicate n 0) := by
    rw [show (Value.int .u8 0).cells = #[.int .u8 0] from rfl, toList_madeCells_one, Nat.mul_one]
    simp [bytesV, byteV]
  rw [e] at h
  exact h
set_option maxRecDepth 100000 in
set_option maxHeartbeats 8000000 in
theorem none6_any (A : Option Addr) (n c : Nat) (body : List UInt8) (w : World) (hs : Sl w 1 A n c (bytesV body)) (h0 : 0 < n) (h1 : n ≤ 1000) (hp : parseF (frm body) = (⟨0, 0, []⟩, 10)) :
    Calls Try.prog 39 #[.slice A n c] w fun x w' => x = .returned (.bool true) ∧ Below w.heap.size w w' := by
  have hbl := hs.blen
  have hfl : (frm body).length ≤ 100000000 := by
    have := uv_len_ten body.length (by omega)
    simp only [frm_len]
    omega
  have HF := Lib.hid hfl
  have hc := put_nil_own A n c body w hs h0 (by omega)
  clear hbl hfl
  go_enter Try.func39, Try.ntmps39
  go_wp2_with fail
  refine hc.mono ?_; rintro x w1 ⟨A1, n1, c1, rfl, o1, b1⟩
  have s1 : Sl w1 1 A1 n1 c1 (bytesV (frm body)) := Own.sl o1
  have hn1 := s1.blen
  have hc2 := Parse_any A1 n1 c1 (frm body) w1 s1 (by have := HF.out; omega)
  rw [hp] at hc2
  clear hc
  go_wp2_with fail
  refine hc2.mono ?_; rintro x w2 ⟨A2, c2, rfl, o2, b2⟩
  simp only [rtV]
  have q0 := box_cellsR w2 [.int .i64 0, .int .i64 0, .slice A2 0 c2] 24 0 _ rfl
  have q1 := box_cellsR w2 [.int .i64 0, .int .i64 0, .slice A2 0 c2] 24 1 _ rfl
  have q2 := box_cellsR w2 [.int .i64 0, .int .i64 0, .slice A2 0 c2] 24 2 _ rfl
  have qb := below_alloc1 w2 (.cells #[.int .i64 0, .int .i64 0, .slice A2 0 c2] 24)
  go_upto_region 3 with fail
  obtain ⟨w3, hw3⟩ : ∃ w3, w3 = w2.alloc (.cells #[.int .i64 0, .int .i64 0, .slice A2 0 c2] 24) := ⟨_, rfl⟩
  have hTw3 : (w2.alloc (.cells [Value.int .i64 0, .int .i64 0, .slice A2 0 c2].toArray 24)) = w3 := hw3.symm
  rw [hTw3] at q0 q1 q2
  rw [← hw3] at qb ⊢
  clear hTw3 hw3
  have B3 := Lib.hid (b1.trans ((b2.trans (qb.mono b2.size)).mono b1.size))
  have hsr := sameRoot_any 0 0 0 0 A2 none 0 c2 0 0 [] [] w3 (Own.sl (Own.below o2 qb)) (Sl.nil _ _)
  clear hc2 o1 o2 s1 b1 b2 qb hs
  go_wp2_with fail
  refine hsr.mono ?_; rintro x w4 ⟨rfl, b4⟩
  go_wp2_with fail
  go_ret
  exact ⟨rfl, B3.out.trans (b4.mono B3.out.size)⟩
end Go.Proofs.Ytemegkapmgcffaa
