import Derived.Test.YtcidifmikcnkcaaRingO
/- RingApart: the walk. -/
namespace Go.Proofs.Ytcidifmikcnkcaa
open Go.RowKit Go.Maps Go.WideShapes Go.WideMaps Go.Sort
set_option linter.unusedSimpArgs false
set_option linter.unusedVariables false

abbrev nM : Nm := [109, 105, 110, 101]
theorem nM_len : nM.length ≤ maxLen := by unfold maxLen; decide
theorem nM_ok : namedB nM = true := by rfl
theorem take_intsL {l : List Int} {k : Nat} {x : Int} (h : l[k]? = some x) : intsL (l.take (k + 1)) = intsL (l.take k) ++ [.int .i64 x] := addr_ints l k x h
set_option maxRecDepth 100000 in
set_option maxHeartbeats 16000000 in
theorem walk_apart (L : Option Addr) (m d : Nat) (l : List Int) (g : Nat) (O : Option Addr) (mo od : Nat) (os : List Opn) (W : World) (hg : g ≤ 255) (hL : Sl W 1 L m d (intsL l)) (hO : Sl W 3 O mo od (flatO os)) (hok : OkO os) (hm : m ≤ 9223372036854775807) (hmo : mo ≤ 9223372036854775807) :
    Calls Try.prog 7 #[.slice L m d, .int .u8 (g : Int), .slice O mo od] W fun e w' => e = .returned (.bool true) ∧ Below W.heap.size W w' := by
  have hll := slI_len hL
  have hol := slO_len hO
  go_enter Try.func7, Try.ntmps7
  go_wp2_with fail
  refine (New_lab W 5).mono ?_; rintro e w0 ⟨hn, b0⟩
  rw [if_pos (by decide)] at hn
  obtain ⟨p, rfl, lab0, h0, hlab0⟩ := hn
  go_wp2_with fail
  refine (Cap_lab h0 nM nM_len (20 + (g : Int)) (by simp)).mono ?_; rintro e w1 ⟨rfl, ⟨lab1, h1, c1⟩, b1⟩
  obtain ⟨e1, q1⟩ := cap_ok (qs := []) (M := 5) nM_ok (by simp) (x := 20 + (g : Int)) (by omega)
  rw [getQ_nil nM_ok] at q1
  have l1 := cap_len (qs := []) (M := 5) (nm := nM) (20 + (g : Int))
  rw [e1]
  have bA := b0.trans b1
  generalize (capR [] 5 nM (20 + (g : Int))).2 = qs1 at *
  replace l1 : qs1.length ≤ 1 := l1
  have H1 := Lib.hid h1
  have Q1 := Lib.hid q1
  clear e1 q1 h0 hlab0 c1 b0 b1 h1
  go_upto_block 0 with fail
  have hdd : decide ((0 : Int) = 0) = true := rfl
  obtain ⟨m0, hm0m, hm020, hm0⟩ : ∃ m0, m0 ≤ m ∧ m0 ≤ 20 ∧ (m ≤ m0 ∨ 20 ≤ m0) := ⟨min m 20, by omega, by omega, by omega⟩
  go_cut [9] (fun s9 wx => ∃ (A : Option Addr) (c : Nat) (lab : Nat → Option Lab) (qs : List (Nm × Qu)), s9 = .slice A m0 c ∧ App W.heap.size 3 1 wx A m0 c (intsL (l.take m0)) ∧ FreeA lab A wx ∧ Hid (RIl wx W.heap.size p 5 qs lab) ∧ Hid (getQ qs 5 nM = ⟨20 + (g : Int), l.take m0⟩) ∧ qs.length ≤ 22 ∧ Below W.heap.size W wx)
  case first =>
    go_wp2_with fail
    go_loopw [9, 10] (fun s9 s10 wx => ∃ (k : Nat) (A : Option Addr) (c : Nat) (lab : Nat → Option Lab) (qs : List (Nm × Qu)), k ≤ m ∧ k ≤ 20 ∧ s9 = .slice A k c ∧ s10 = .int .i64 (k : Int) ∧ App W.heap.size 3 1 wx A k c (intsL (l.take k)) ∧ FreeA lab A wx ∧ Hid (RIl wx W.heap.size p 5 qs lab) ∧ Hid (getQ qs 5 nM = ⟨20 + (g : Int), l.take k⟩) ∧ qs.length ≤ 1 + k ∧ Below W.heap.size W wx) (fun _ iv _ => 20 - (intOf iv).toNat)
    case atStart => exact ⟨0, none, 0, lab1, qs1, by omega, by omega, rfl, rfl, App.nil _ _ _ _, FreeA.none _ _, H1, Q1, by omega, bA⟩
    case round =>
      clear H1 Q1 bA l1 qs1
      obtain ⟨k, A, c, lab, qs, hkm, hk20, rfl, rfl, aM, fA, HR, HQ, hql, bx⟩ := hrel
      by_cases h3 : (k : Int) < (m : Int)
      · by_cases h4 : (k : Int) < 20
        · obtain ⟨x, hx⟩ := get_some l k (by omega)
          obtain ⟨ad, rfl, hcell⟩ := slI_cell (hL.below bx) hx
          have hcl : (l.take k).length = k := by rw [List.length_take]; omega
          obtain ⟨e2, q2⟩ := put_ok (qs := qs) (M := 5) nM_ok (by omega) x (by rw [HQ.out]; simp only [hcl]; omega)
          have l2 := put_len (qs := qs) (M := 5) (nm := nM) x
          rw [HQ.out] at q2
          have hin : (0 : Int) ≤ (k : Int) ∧ (k : Int) < (m : Int) := by omega
          have Hx := Lib.hid hx
          have E2 := Lib.hid e2
          have Q2 := Lib.hid q2
          have hR := HR.out
          clear hx e2 q2 hcl HQ HR
          go_wp2_with fail
          refine (Put_lab hR nM nM_len x (by omega)).mono ?_; rintro e w2 ⟨rfl, ⟨lab2, h2, c2⟩, b2⟩
          rw [E2.out]
          have bB := bx.trans b2
          obtain ⟨ad', had', hcell2⟩ := slI_cell (hL.below bB) Hx.out
          cases had'
          have aM2 := aM.chg c2 fA
          have fA2 := fA.chg c2
          have bn := below_alloc1 w2 (.cells #[.int .i64 x] 3)
          have aM3 := aM2.below bn
          have fA3 := fA2.size bn.size
          have h3' := Lib.hid (h2.below bn)
          have bC := bB.trans (bn.mono bB.size)
          have sl3 := sl_cells w2 [.int .i64 x] 3
          have hB3 := bC.size
          generalize (putR qs 5 nM x).2 = qs2 at *
          clear aM2 fA2 bn h2 c2 b2 aM fA hR bx bB E2 hcell
          go_wp2_with (at_builtin; refine wpList_app _ rfl (.tmp 44) (.tmp 49) 22 rfl W.heap.size 3 (.int .i64 0) 1 8 Try.underlying22 infoInt rfl (by decide) A k c _ rfl aM3 (some ⟨w2.heap.size, 0, none⟩) 1 1 [.int .i64 x] rfl sl3 (fun u hu => by simp at hu; subst hu; rfl) (by unfold maxLen; omega) (by omega) hB3 ?_; intro A8 d8 w4 hat)
          have h4' := h3'.out.appended hat.grown fA3
          have fA4 := fA3.frm h3'.out hat.lies hat.grown.size (hat.app.lts (by simp))
          have bD := bC.trans (hat.below hB3)
          have aM4 := hat.app
          rw [← take_intsL Hx.out] at aM4
          have q4 : getQ qs2 5 nM = ⟨20 + (g : Int), l.take (k + 1)⟩ := by rw [Q2.out, List.take_add_one, Hx.out]; rfl
          go_roundw
          case rel => exact ⟨k + 1, A8, d8, lab2, qs2, by omega, by omega, rfl, by go_num, aM4, fA4, Lib.hid h4', Lib.hid q4, by omega, bD⟩
          case measure => simp [intOf]; omega
        · obtain rfl : k = m0 := by omega
          go_wp2_with fail
          go_meet
          exact ⟨A, c, lab, qs, rfl, aM, fA, HR, HQ, by omega, bx⟩
      · obtain rfl : k = m0 := by omega
        go_wp2_with fail
        go_meet
        exact ⟨A, c, lab, qs, rfl, aM, fA, HR, HQ, by omega, bx⟩
  case rest =>
    clear H1 Q1 bA l1 qs1 hdd
    obtain ⟨A, c, lab, qs, rfl, aM, fA, HR, HQ, hql, bx⟩ := hcut
    have hmnl : (l.take m0).length = m0 := by rw [List.length_take]; omega
    obtain ⟨mine, hmine⟩ : ∃ mine, mine = l.take m0 := ⟨_, rfl⟩
    rw [← hmine] at aM HQ hmnl
    clear hmine hm0 hL hll hm0m
    go_wp2_with fail
    go_loopw [11] (fun s11 wx => ∃ (k : Nat) (lab : Nat → Option Lab) (qs : List (Nm × Qu)), k ≤ mo ∧ k ≤ 100 ∧ s11 = .int .i64 (k : Int) ∧ App W.heap.size 3 1 wx A m0 c (intsL mine) ∧ FreeA lab A wx ∧ Hid (RIl wx W.heap.size p 5 qs lab) ∧ Hid (getQ qs 5 nM = ⟨20 + (g : Int), mine⟩) ∧ qs.length ≤ 22 + k ∧ Below W.heap.size W wx) (fun iv _ => 100 - (intOf iv).toNat)
    case atStart => exact ⟨0, lab, qs, by omega, by omega, rfl, aM, fA, HR, HQ, by omega, bx⟩
    case round =>
      clear aM fA HR HQ bx hql lab qs
      obtain ⟨k, lab, qs, hkm, hk100, rfl, aM, fA, HR, HQ, hql, bx⟩ := hrel
      rename World => wx
      by_cases h3 : (k : Int) < (mo : Int)
      · by_cases h4 : (k : Int) < 100
        · obtain ⟨t, ht⟩ := get_some os k (by omega)
          have hokt := hok t (List.mem_of_getElem? ht)
          have hOx := hO.below bx
          obtain ⟨ad, rfl⟩ := slO_addr hOx ht
          obtain ⟨y0, y1, y2⟩ := slO_three hOx ht
          have hin : (0 : Int) ≤ (k : Int) ∧ (k : Int) < (mo : Int) := by omega
          have bn := below_alloc1 wx (.cells #[.int .i64 t.K, .int .i64 t.N, .string (bstr t.S)] 43)
          have sb := sl_cells wx [.int .i64 t.K, .int .i64 t.N, .string (bstr t.S)] 43
          have aM1 := aM.below bn
          have fA1 := fA.size bn.size
          have HR1 := Lib.hid (HR.out.below bn)
          have bB := bx.trans (bn.mono bx.size)
          have hbl : wx.heap.size < (wx.alloc (.cells #[.int .i64 t.K, .int .i64 t.N, .string (bstr t.S)] 43)).heap.size := by simp
          have hfl := HR.out.labN (Nat.le_refl _)
          clear hOx ht bn aM fA HR bx
          go_upto_region 15 with fail
          obtain ⟨w1, hw1⟩ : ∃ w1, w1 = wx.alloc (.cells #[.int .i64 t.K, .int .i64 t.N, .string (bstr t.S)] 43) := ⟨_, rfl⟩
          obtain ⟨tb, htb⟩ : ∃ tb, tb = wx.heap.size := ⟨_, rfl⟩
          rw [← hw1, ← htb] at sb
          rw [← hw1] at aM1 fA1 HR1 bB
          rw [← hw1, ← htb] at hbl
          rw [← htb] at hfl
          try rw [← hw1]
          try rw [← htb]

          have zz : ∀ j u, [Value.int .i64 t.K, .int .i64 t.N, .string (bstr t.S)][j]? = some u → w1.cell? ⟨tb, j, none⟩ = some u := by
            intro j u hj
            obtain ⟨a, h1, h2⟩ := sb.cells j u hj
            cases h1
            rwa [add_plain] at h2
          have z0 := zz 0 _ rfl
          have z1 := zz 1 _ rfl
          have z2 := zz 2 _ rfl
          have hsz : (bstr t.S).size = t.S.length := rfl
          clear hw1 htb sb zz y0 y1 y2
          by_cases hme : t.S = nM
          · have he : (bstr t.S = { data := #[109, 105, 110, 101] }) := by rw [hme]; rfl
            clear hsz
            go_wp2_with fail
            go_roundw
            case rel => exact ⟨k + 1, lab, qs, by omega, by omega, by go_num, aM1, fA1, HR1, HQ, by omega, bB⟩
            case measure => simp [intOf]; omega
          have hne : (t.S == [109, 105, 110, 101]) = false := by simpa using hme
          by_cases hlong : 60 < t.S.length
          · go_wp2_with fail
            go_roundw
            case rel => exact ⟨k + 1, lab, qs, by omega, by omega, by go_num, aM1, fA1, HR1, HQ, by omega, bB⟩
            case measure => simp [intOf]; omega
          have hR1 := HR1.out
          have hme2 : nM ≠ t.S := fun e => hme e.symm
          obtain ⟨nm, hnm⟩ : ∃ nm, nm = t.S := ⟨_, rfl⟩
          obtain ⟨K, hK⟩ : ∃ K, K = t.K := ⟨_, rfl⟩
          obtain ⟨N, hN⟩ : ∃ N, N = t.N := ⟨_, rfl⟩
          have hnl := hokt.1
          rw [← hnm] at hne hlong hnl hme2 z2 hsz
          rw [← hK] at z0
          rw [← hN] at z1
          have fT : Hid (lab tb = none) := Lib.hid hfl
          have HQ1 := HQ
          clear hme hokt hnm hK hN HR1 hfl
          by_cases k5 : K ≤ 5
          · go_wp2_with fail
            refine (Put_lab hR1 nm hnl N (by omega)).mono ?_; rintro e w2 ⟨rfl, ⟨lab2, h2, c2⟩, b2⟩
            have hQ2 : getQ ((putR qs 5 nm N).2) 5 nM = ⟨20 + (g : Int), mine⟩ := by rw [put_ne _ hme2, HQ1.out]
            have hl2 := put_len (qs := qs) (M := 5) (nm := nm) N
            have aM2 := aM1.chg c2 fA1
            have fA2 := fA1.chg c2
            have bC := bB.trans b2
            generalize ((putR qs 5 nm N).2) = qs2 at *
            clear aM1 fA1 c2 b2 bB hR1 z0 z1 z2 hne hsz HQ1 HQ
            go_wp2_with fail
            refine (has_any h2.is nM nM_len A m0 c mine aM2.sl (by rw [hQ2]) (by omega)).mono ?_; rintro e w3 ⟨rfl, b3⟩
            have h3' := h2.below b3
            have aM3 := aM2.below b3
            have fA3 := fA2.size b3.size
            have bD := bC.trans (b3.mono bC.size)
            clear h2 aM2 fA2 bC b3
            go_wp2_with fail
            refine (Room_any h3'.is nM nM_len).mono ?_; rintro e w4 ⟨rfl, b4⟩
            have h4' := h3'.below b4
            have aM4 := aM3.below b4
            have fA4 := fA3.size b4.size
            have bE := bD.trans (b4.mono bD.size)
            rw [hQ2]
            have hroom : max ((20 + (g : Int)) - (mine.length : Int)) 0 = 20 + (g : Int) - (m0 : Int) := by omega
            simp only [hroom]
            have HQ2 := Lib.hid hQ2
            clear h3' aM3 fA3 bD b4 hQ2 hroom
            go_wp2_with fail
            go_roundw
            case rel => exact ⟨k + 1, lab2, qs2, by omega, by omega, by go_num, aM4, fA4, Lib.hid h4', HQ2, by omega, bE⟩
            case measure => simp [intOf]; omega
          by_cases k7 : K ≤ 7
          · go_wp2_with fail
            refine (Take_lab hR1 nm hnl (by omega)).mono ?_; rintro e w2 ⟨rfl, ⟨lab2, h2, c2⟩, b2⟩
            have hQ2 : getQ (takeR qs 5 nm) 5 nM = ⟨20 + (g : Int), mine⟩ := by rw [take_ne hme2, HQ1.out]
            have hl2 := take_len (qs := qs) (M := 5) (nm := nm)
            have aM2 := aM1.chg c2 fA1
            have fA2 := fA1.chg c2
            have bC := bB.trans b2
            generalize (takeR qs 5 nm) = qs2 at *
            clear aM1 fA1 c2 b2 bB hR1 z0 z1 z2 hne hsz HQ1 HQ
            go_wp2_with fail
            refine (has_any h2.is nM nM_len A m0 c mine aM2.sl (by rw [hQ2]) (by omega)).mono ?_; rintro e w3 ⟨rfl, b3⟩
            have h3' := h2.below b3
            have aM3 := aM2.below b3
            have fA3 := fA2.size b3.size
            have bD := bC.trans (b3.mono bC.size)
            clear h2 aM2 fA2 bC b3
            go_wp2_with fail
            refine (Room_any h3'.is nM nM_len).mono ?_; rintro e w4 ⟨rfl, b4⟩
            have h4' := h3'.below b4
            have aM4 := aM3.below b4
            have fA4 := fA3.size b4.size
            have bE := bD.trans (b4.mono bD.size)
            rw [hQ2]
            have hroom : max ((20 + (g : Int)) - (mine.length : Int)) 0 = 20 + (g : Int) - (m0 : Int) := by omega
            simp only [hroom]
            have HQ2 := Lib.hid hQ2
            clear h3' aM3 fA3 bD b4 hQ2 hroom
            go_wp2_with fail
            go_roundw
            case rel => exact ⟨k + 1, lab2, qs2, by omega, by omega, by go_num, aM4, fA4, Lib.hid h4', HQ2, by omega, bE⟩
            case measure => simp [intOf]; omega
          by_cases k9 : K ≤ 9
          · go_wp2_with fail
            refine (Drop_lab hR1 nm hnl N (by omega)).mono ?_; rintro e w2 ⟨rfl, ⟨lab2, h2, c2⟩, b2⟩
            have hQ2 : getQ ((dropR qs 5 nm N).2) 5 nM = ⟨20 + (g : Int), mine⟩ := by rw [drop_ne _ hme2, HQ1.out]
            have hl2 := drop_len (qs := qs) (M := 5) (nm := nm) N
            have aM2 := aM1.chg c2 fA1
            have fA2 := fA1.chg c2
            have bC := bB.trans b2
            generalize ((dropR qs 5 nm N).2) = qs2 at *
            clear aM1 fA1 c2 b2 bB hR1 z0 z1 z2 hne hsz HQ1 HQ
            go_wp2_with fail
            refine (has_any h2.is nM nM_len A m0 c mine aM2.sl (by rw [hQ2]) (by omega)).mono ?_; rintro e w3 ⟨rfl, b3⟩
            have h3' := h2.below b3
            have aM3 := aM2.below b3
            have fA3 := fA2.size b3.size
            have bD := bC.trans (b3.mono bC.size)
            clear h2 aM2 fA2 bC b3
            go_wp2_with fail
            refine (Room_any h3'.is nM nM_len).mono ?_; rintro e w4 ⟨rfl, b4⟩
            have h4' := h3'.below b4
            have aM4 := aM3.below b4
            have fA4 := fA3.size b4.size
            have bE := bD.trans (b4.mono bD.size)
            rw [hQ2]
            have hroom : max ((20 + (g : Int)) - (mine.length : Int)) 0 = 20 + (g : Int) - (m0 : Int) := by omega
            simp only [hroom]
            have HQ2 := Lib.hid hQ2
            clear h3' aM3 fA3 bD b4 hQ2 hroom
            go_wp2_with fail
            go_roundw
            case rel => exact ⟨k + 1, lab2, qs2, by omega, by omega, by go_num, aM4, fA4, Lib.hid h4', HQ2, by omega, bE⟩
            case measure => simp [intOf]; omega
          have k10 : True := trivial
          · go_wp2_with fail
            refine (Cap_lab hR1 nm hnl N (by omega)).mono ?_; rintro e w2 ⟨rfl, ⟨lab2, h2, c2⟩, b2⟩
            have hQ2 : getQ ((capR qs 5 nm N).2) 5 nM = ⟨20 + (g : Int), mine⟩ := by rw [cap_ne _ hme2, HQ1.out]
            have hl2 := cap_len (qs := qs) (M := 5) (nm := nm) N
            have aM2 := aM1.chg c2 fA1
            have fA2 := fA1.chg c2
            have bC := bB.trans b2
            generalize ((capR qs 5 nm N).2) = qs2 at *
            clear aM1 fA1 c2 b2 bB hR1 z0 z1 z2 hne hsz HQ1 HQ
            go_wp2_with fail
            refine (has_any h2.is nM nM_len A m0 c mine aM2.sl (by rw [hQ2]) (by omega)).mono ?_; rintro e w3 ⟨rfl, b3⟩
            have h3' := h2.below b3
            have aM3 := aM2.below b3
            have fA3 := fA2.size b3.size
            have bD := bC.trans (b3.mono bC.size)
            clear h2 aM2 fA2 bC b3
            go_wp2_with fail
            refine (Room_any h3'.is nM nM_len).mono ?_; rintro e w4 ⟨rfl, b4⟩
            have h4' := h3'.below b4
            have aM4 := aM3.below b4
            have fA4 := fA3.size b4.size
            have bE := bD.trans (b4.mono bD.size)
            rw [hQ2]
            have hroom : max ((20 + (g : Int)) - (mine.length : Int)) 0 = 20 + (g : Int) - (m0 : Int) := by omega
            simp only [hroom]
            have HQ2 := Lib.hid hQ2
            clear h3' aM3 fA3 bD b4 hQ2 hroom
            go_wp2_with fail
            go_roundw
            case rel => exact ⟨k + 1, lab2, qs2, by omega, by omega, by go_num, aM4, fA4, Lib.hid h4', HQ2, by omega, bE⟩
            case measure => simp [intOf]; omega
        · go_wp2_with fail
          refine (awake8_any _).mono ?_; rintro e w11 ⟨rfl, c11⟩
          go_wp2_with fail
          go_ret
          exact ⟨rfl, bx.trans (c11.mono bx.size)⟩
      · go_wp2_with fail
        refine (awake8_any _).mono ?_; rintro e w11 ⟨rfl, c11⟩
        go_wp2_with fail
        go_ret
        exact ⟨rfl, bx.trans (c11.mono bx.size)⟩
theorem walk_apart2 (L : Option Addr) (m d : Nat) (l : List Int) (x1 : Int) (O : Option Addr) (mo od : Nat) (os : List Opn) (W : World) (hL : Sl W 1 L m d (l.map (Value.int .i64))) (hm : m ≤ 9223372036854775807) (h1 : (Lit.int .u8 x1).wf = true) (hO : Sl W 3 O mo od (flatO os)) (hok : OkO os) (hmo : mo ≤ 9223372036854775807) :
    Calls Try.prog 7 #[.slice L m d, .int .u8 x1, .slice O mo od] W fun e w' => e = .returned (.bool true) ∧ Below W.heap.size W w' := by
  have k1 : 0 ≤ x1 ∧ x1 ≤ 255 := by simp [Lit.wf, IntKind.min, IntKind.max, IntKind.signed, IntKind.bits] at h1; omega
  obtain ⟨g, rfl⟩ : ∃ g : Nat, x1 = (g : Int) := ⟨x1.toNat, by omega⟩
  exact walk_apart L m d l g O mo od os W (by omega) hL hO hok hm hmo
end Go.Proofs.Ytcidifmikcnkcaa
