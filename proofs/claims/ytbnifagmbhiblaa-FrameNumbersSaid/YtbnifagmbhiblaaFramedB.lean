import Derived.Test.YtbnifagmbhiblaaFramed
namespace Go.Proofs.Ytbnifagmbhiblaa
open Go.RowKit
set_option linter.unusedSimpArgs false
set_option linter.unusedVariables false

theorem results_tmp4 {fn : Func} {t u v x : Tmp} (h : fn.results = #[.tmp t, .tmp u, .tmp v, .tmp x]) (tmps : Array Value) (P : Program) (w : World) :
    (results fn tmps).run P w = .ok (.tuple #[tmps.getD t undef, tmps.getD u undef, tmps.getD v undef, tmps.getD x undef]) w := by
  simp [results, h]

/-- its block is there -/
def LtB (A : Option Addr) (w : World) : Prop := ∀ a, A = some a → a.block < w.heap.size
theorem LtB.none (w : World) : LtB Option.none w := fun a h => by cases h
theorem LtB.mono {A : Option Addr} {w w' : World} (h : LtB A w) (hs : w.heap.size ≤ w'.heap.size) : LtB A w' := fun a ha => Nat.lt_of_lt_of_le (h a ha) hs
theorem ltB_app {base n c : Nat} {e : TypeId} {w : World} {A : Option Addr} {cs : List Value} (h : App base e 1 w A n c cs) (hn : 0 < n) : LtB A w := fun a ha => by subst ha; exact h.block_lt hn

theorem goods_end {qs : List Part} {k : Nat} (hk : k ≤ 20) (h : k = 20 ∨ qs.length ≤ k) : goods qs k = goods qs 20 := by
  rcases h with rfl | h
  · rfl
  · unfold goods
    rw [List.take_of_length_le h, List.take_of_length_le (by omega)]

set_option maxRecDepth 100000 in
set_option maxHeartbeats 2000000 in
theorem framed_any (P : Option Addr) (m d : Nat) (qs : List Part) (w : World) (hp : Ls w P m d qs) (hm : m ≤ 9223372036854775807) :
    Calls Try.prog 51 #[.slice P m d] w fun e w' => ∃ A n c A2 n2 c2 A3 n3 c3, e = .returned (.tuple #[.slice A n c, .slice A2 n2 c2, .slice A3 n3 c3, .bool true]) ∧
      Sl w' 1 A n c (bytesV (frames (goods qs 20))) ∧ Ls w' A2 n2 c2 (goods qs 20) ∧ Sl w' 1 A3 n3 c3 ((endsOf 0 (goods qs 20)).map intV) ∧ Below w.heap.size w w' := by
  have Hp := Lib.hid hp.len
  go_enter Try.func51, Try.ntmps51
  go_upto_block 0 with fail
  go_cut [6, 7, 8] (fun s6 s7 s8 wx => ∃ (k : Nat) (A A2 A3 : Option Addr) (n c n2 c2 n3 c3 : Nat), k ≤ 20 ∧ (k = 20 ∨ m ≤ k) ∧ s6 = .slice A n c ∧ s7 = .slice A2 n2 c2 ∧ s8 = .slice A3 n3 c3 ∧
    App w.heap.size 5 1 wx A n c (bytesV (frames (goods qs k))) ∧ App w.heap.size 26 1 wx A2 n2 c2 ((goods qs k).map Part.v) ∧ App w.heap.size 3 1 wx A3 n3 c3 ((endsOf 0 (goods qs k)).map intV) ∧ Below w.heap.size w wx)
  case first =>
    go_wp2_with fail
    go_loopw [6, 7, 8, 9] (fun s6 s7 s8 iv wx => ∃ (k : Nat) (A A2 A3 : Option Addr) (n c n2 c2 n3 c3 : Nat), k ≤ 20 ∧ iv = .int .i64 (k : Nat) ∧ s6 = .slice A n c ∧ s7 = .slice A2 n2 c2 ∧ s8 = .slice A3 n3 c3 ∧
      App w.heap.size 5 1 wx A n c (bytesV (frames (goods qs k))) ∧ App w.heap.size 26 1 wx A2 n2 c2 ((goods qs k).map Part.v) ∧ App w.heap.size 3 1 wx A3 n3 c3 ((endsOf 0 (goods qs k)).map intV) ∧
      Sep A A2 ∧ Sep A A3 ∧ Sep A2 A3 ∧ LtB A wx ∧ LtB A2 wx ∧ LtB A3 wx ∧ Below w.heap.size w wx) (fun _ _ _ iv _ => 20 - (intOf iv).toNat)
    case atStart =>
      exact ⟨0, none, none, none, 0, 0, 0, 0, 0, 0, by omega, rfl, rfl, rfl, rfl, App.nil _ _ _ _, App.nil _ _ _ _, App.nil _ _ _ _, Sep.none _, Sep.none _, Sep.none _, LtB.none _, LtB.none _, LtB.none _, Below.refl _ _⟩
    case round =>
      obtain ⟨k, A, A2, A3, n, c, n2, c2, n3, c3, hk, rfl, rfl, rfl, rfl, h1, h2, h3, s12, s13, s23, t1, t2, t3, hb⟩ := hrel
      by_cases hlt : k < m
      · by_cases hlt2 : k < 20
        · obtain ⟨q, hq⟩ := get_some qs k (by rw [Hp.out]; exact hlt)
          obtain ⟨⟨ad, hP, hcell⟩, hsq⟩ := (hp.below hb).at_ hq
          have hin : (0 : Int) ≤ (k : Int) ∧ (k : Int) < (m : Int) := by omega
          obtain ⟨qA, qn, qc, ql⟩ := q
          simp only at hcell hsq
          subst hP
          have hql := hsq.blen
          by_cases hz : qn = 0
          · subst hz
            have hg := goods_no hq (by simp [goodB])
            have Hg := Lib.hid hg
            clear hg hq hsq hql
            go_wp2_with fail
            go_roundw
            case rel => exact ⟨k + 1, A, A2, A3, n, c, n2, c2, n3, c3, by omega, by go_num, rfl, rfl, rfl, by rw [Hg.out]; exact h1, by rw [Hg.out]; exact h2, by rw [Hg.out]; exact h3, s12, s13, s23, t1, t2, t3, hb⟩
            case measure => simp [intOf]; omega
          · have hzb : ((qn : Int) == 0) = false := by simp; omega
            by_cases hl : 200 < qn
            · have hg := goods_no hq (by simp [goodB]; omega)
              have Hg := Lib.hid hg
              clear hg hq hsq hql
              go_wp2_with fail
              go_roundw
              case rel => exact ⟨k + 1, A, A2, A3, n, c, n2, c2, n3, c3, by omega, by go_num, rfl, rfl, rfl, by rw [Hg.out]; exact h1, by rw [Hg.out]; exact h2, by rw [Hg.out]; exact h3, s12, s13, s23, t1, t2, t3, hb⟩
              case measure => simp [intOf]; omega
            · have hg := goods_yes hq (by simp [goodB]; omega)
              have Hg := Lib.hid hg
              have hn0 := h1.sl.blen
              have hgl := goods_len qs k
              have hfl := frames_len_le (goods qs k) (fun p hp2 => by
                have h4 := goods_good qs k p hp2
                have h5 := (hp.each p h4.2).blen
                have h6 := h4.1
                simp [goodB] at h6
                omega)
              have hn2 := h2.sl.len
              have hn3 := h3.sl.len
              rw [List.length_map, Nat.mul_one] at hn2 hn3
              rw [endsOf_len] at hn3
              have hnb : n ≤ 5000 := by omega
              have hn2b : n2 ≤ 20 := by omega
              have hn3b : n3 ≤ 20 := by omega
              have hqw := (hp.each _ (List.mem_of_getElem? hq))
              dsimp only at hqw
              have hsepq : ∀ ad, qA = some ad → some ad.block ≠ rowOf w.heap.size A := by
                intro ad h e
                subst h
                have h7 := Sl.block_lt hqw (by omega)
                have := rowOf_ge e.symm
                omega
              have hf3 := endsOf_snoc (goods qs k) ⟨qA, qn, qc, ql⟩ 0
              rw [← Hg.out, Nat.zero_add] at hf3
              have hfs := frames_snoc (goods qs k) ⟨qA, qn, qc, ql⟩
              rw [← Hg.out] at hfs
              have Hf3 := Lib.hid hf3
              have Hfs := Lib.hid hfs
              have Hq := Lib.hid hq
              clear hg hq hqw hn0 hfl hn2 hn3 hf3 hfs hgl
              go_wp2_with fail
              refine (put_any w.heap.size A qA n c qn qc (frames (goods qs k)) ql _ h1 hb.size hsq hsepq (by omega) (by omega) (by omega)).mono ?_; rintro e w1 ⟨A', n', c', rfl, hto⟩
              have hn'l : n' ≤ 6000 := by
                have h8 := hto.app.sl.blen
                have h9 := frm_len ql
                have h10 := h1.sl.blen
                have h11 := uv_len_ten ql.length (by omega)
                rw [List.length_append] at h8
                omega
              have hn'0 : 0 < n' := by
                have h8 := hto.app.sl.blen
                have h9 := frm_len ql
                rw [List.length_append] at h8
                omega
              have g1 := hto.app
              have g2 := h2.kept hto.grown s12.row
              have g3 := h3.kept hto.grown s13.row
              have u1 := ltB_app g1 hn'0
              have u2 := t2.mono hto.grown.size
              have u3 := t3.mono hto.grown.size
              have v12 := s12.from_ hto.lies t2
              have v13 := s13.from_ hto.lies t3
              have hb1 := hb.trans ((hto.below hb.size))
              rw [← Hfs.out] at g1
              have Hn' := Lib.hid g1.sl.blen
              obtain ⟨⟨ad1, had1, hcell1⟩, _⟩ := (hp.below hb1).at_ Hq.out
              cases had1
              dsimp only at hcell1
              clear hto h1 h2 h3 s12 s13 t1 t2 t3 hb hsepq hsq hcell
              go_wp2_with (first | (at_builtin; refine wpList_app _ rfl (.tmp 46) (.tmp 51) 63 rfl w.heap.size 26 (.slice none 0 0) 1 24 Try.underlying63 infoSlice rfl (by decide) A2 n2 c2 _ rfl (g2.alloc _) (some ⟨w1.heap.size, 0, none⟩) 1 1 [.slice qA qn qc] rfl (sl_one _ _ _) (by intro x hx; simp at hx; subst hx; rfl) (by unfold maxLen; omega) (by omega) (by simp; have := hb1.size; omega) ?_; intro A2' d2 w2 hat2; have hb2 := (hb1.alloc hb1.size (.cells #[.slice qA qn qc] 26)).trans (hat2.below (by simp; have := hb1.size; omega)); have z2 := hat2.grown.size; have q1 := (g1.alloc (.cells #[.slice qA qn qc] 26)).kept hat2.grown v12.symm.row; have q3 := (g3.alloc (.cells #[.slice qA qn qc] 26)).kept hat2.grown s23.row) | (at_builtin; refine wpList_app _ rfl (.tmp 53) (.tmp 56) 54 rfl w.heap.size 3 (.int .i64 0) 1 8 Try.underlying54 infoInt rfl (by decide) A3 n3 c3 _ rfl (q3.alloc _) (some ⟨w2.heap.size, 0, none⟩) 1 1 [.int .i64 (n' : Int)] rfl (sl_one _ _ _) (by intro x hx; simp at hx; subst hx; rfl) (by unfold maxLen; omega) (by omega) (by simp; have := hb2.size; omega) ?_; intro A3' d3 w3 hat3))
              have z3 := hat3.grown.size
              have y1 : (w1.alloc (.cells #[.slice qA qn qc] 26)).heap.size = w1.heap.size + 1 := by simp
              have y2 : (w2.alloc (.cells #[.int .i64 (n' : Int)] 3)).heap.size = w2.heap.size + 1 := by simp
              rw [y1] at z2
              rw [y2] at z3
              have e1 := (q1.alloc (.cells #[.int .i64 (n' : Int)] 3)).kept hat3.grown v13.symm.row
              have x23 : Sep A2' A3 := s23.from_ hat2.lies (u3.mono (by omega))
              have e2 := (hat2.app.alloc (.cells #[.int .i64 (n' : Int)] 3)).kept hat3.grown x23.symm.row
              have e3 := hat3.app
              have p12 : Sep A2' A' := v12.symm.from_ hat2.lies (u1.mono (by omega))
              have p13 : Sep A3' A' := v13.symm.from_ hat3.lies (u1.mono (by omega))
              have l2 := ltB_app hat2.app (by omega)
              have p23 : Sep A3' A2' := x23.symm.from_ hat3.lies (l2.mono (by omega))
              have l3 := ltB_app hat3.app (by omega)
              have hb3 := (hb2.alloc hb2.size (.cells #[.int .i64 (n' : Int)] 3)).trans (hat3.below (by have := hb2.size; omega))
              go_roundw
              case rel =>
                refine ⟨k + 1, A', A2', A3', n', c', _, d2, _, d3, by omega, by go_num, rfl, rfl, rfl, e1, ?_, ?_, p12.symm, p13.symm, p23.symm, u1.mono (by omega), l2.mono (by omega), l3, hb3⟩
                · rw [Hg.out, List.map_append]; exact e2
                · rw [Hf3.out, List.map_append, Hn'.out]; exact e3
              case measure => simp [intOf]; omega
        · obtain rfl : k = 20 := by omega
          go_wp2_with fail
          go_meet
          exact ⟨20, A, A2, A3, n, c, n2, c2, n3, c3, by omega, .inl rfl, rfl, rfl, rfl, h1, h2, h3, hb⟩
      · go_wp2_with fail
        go_meet
        exact ⟨k, A, A2, A3, n, c, n2, c2, n3, c3, hk, .inr (by omega), rfl, rfl, rfl, h1, h2, h3, hb⟩
  case rest =>
    obtain ⟨k, A, A2, A3, n, c, n2, c2, n3, c3, hk, hend, rfl, rfl, rfl, h1, h2, h3, hb⟩ := hcut
    have he := goods_end (qs := qs) hk (by rw [Hp.out]; exact hend)
    rw [he] at h1 h2 h3
    have hall := fun q (hq : q ∈ goods qs 20) => (hp.below hb).each q (goods_good qs 20 q hq).2
    clear he hend
    go_wp2_with fail
    (try simp only [Exit.inBlock, Exit.then])
    refine bodyPost_ret (results_tmp4 rfl _ _ _) rfl ?_
    exact ⟨A, n, c, A2, n2, c2, A3, n3, c3, rfl, h1.sl, ⟨h2.sl, hall⟩, h3.sl, hb⟩
end Go.Proofs.Ytbnifagmbhiblaa
