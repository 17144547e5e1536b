import Derived.Test.YtphjmbhlokkdiaaLawCuts
import Derived.Test.YtphjmbhlokkdiaaPureEvB
import Derived.Test.YtphjmbhlokkdiaaRegionP
import Derived.Deep.CutBlock
import Derived.Deep.DeepCutAuto
namespace Go.Proofs.Ytphjmbhlokkdiaa
open Go.RowKit
set_option linter.unusedSimpArgs false
set_option linter.unusedVariables false

theorem addr_add_add (a : Addr) (i j : Nat) : (a.add i).add j = a.add (i + j) := by
  unfold Addr.add
  by_cases h1 : i = 0
  · subst h1; simp
  · by_cases h2 : j = 0
    · subst h2; simp
    · have h3 : ¬ (i + j = 0) := by omega
      simp [h1, h2, h3, Nat.add_assoc]
theorem cells_len (e : Ev) : e.cells.length = 7 := rfl
theorem flat_len (es : List Ev) : (es.flatMap Ev.cells).length = es.length * 7 := by
  induction es with
  | nil => rfl
  | cons e r ih => rw [List.flatMap_cons, List.length_append, ih, cells_len, List.length_cons]; omega
theorem flat_at (es : List Ev) : ∀ (k j : Nat) (e : Ev) (u : Value), es[k]? = some e → e.cells[j]? = some u → (es.flatMap Ev.cells)[k * 7 + j]? = some u := by
  induction es with
  | nil => intro k j e u h; simp at h
  | cons f r ih =>
    intro k j e u h h2
    have hj : j < 7 := (List.getElem?_eq_some_iff.1 h2).1
    rw [List.flatMap_cons]
    cases k with
    | zero =>
      simp only [List.getElem?_cons_zero, Option.some.injEq] at h
      subst h
      rw [Nat.zero_mul, Nat.zero_add, List.getElem?_append_left (by rw [cells_len]; exact hj)]
      exact h2
    | succ k =>
      rw [List.getElem?_cons_succ] at h
      rw [List.getElem?_append_right (by rw [cells_len]; omega), cells_len, show (k + 1) * 7 + j - 7 = k * 7 + j by omega]
      exact ih k j e u h h2
/-- events in a slice -/
structure LsE (w : World) (P : Option Addr) (m d : Nat) (es : List Ev) : Prop where
  sl : Sl w 7 P m d (es.flatMap Ev.cells)
  ok : ∀ e ∈ es, e.ok
theorem LsE.len {w : World} {P : Option Addr} {m d : Nat} {es : List Ev} (h : LsE w P m d es) : es.length = m := by have := h.sl.len; rw [flat_len] at this; omega
theorem LsE.below {w w' : World} {P : Option Addr} {m d : Nat} {es : List Ev} (h : LsE w P m d es) (hb : Below w.heap.size w w') : LsE w' P m d es := ⟨h.sl.below hb, h.ok⟩
theorem slE_at {w : World} {P : Option Addr} {m d : Nat} {es : List Ev} (h : Sl w 7 P m d (es.flatMap Ev.cells)) {k : Nat} {e : Ev} (hk : es[k]? = some e) : ∃ ad, P = some ad ∧ ∀ j u, e.cells[j]? = some u → w.cell? ((ad.add (k * 7)).add j) = some u := by
  obtain ⟨ad, rfl, _⟩ := h.cells (k * 7 + 0) _ (flat_at es k 0 e _ hk rfl)
  refine ⟨ad, rfl, fun j u hj => ?_⟩
  obtain ⟨a, h1, h2⟩ := h.cells (k * 7 + j) u (flat_at es k j e u hk hj)
  cases h1
  rw [addr_add_add]; exact h2

/-- the seven cells of an event at an address, as a walk asks for them -/
def Seven (w : World) (x : Addr) (e : Ev) : Prop :=
  w.cell? x = some (.int .u8 (e.K : Int)) ∧ w.cell? { block := x.block, off := x.off + 1, spot := none } = some (.int .i64 e.At) ∧ w.cell? { block := x.block, off := x.off + 2, spot := none } = some (.int .i64 e.N) ∧
  w.cell? { block := x.block, off := x.off + 3, spot := none } = some (.int .i64 e.P) ∧ w.cell? { block := x.block, off := x.off + 4, spot := none } = some (.int .i64 e.A) ∧ w.cell? { block := x.block, off := x.off + 5, spot := none } = some (.int .i64 e.B) ∧
  w.cell? { block := x.block, off := x.off + 6, spot := none } = some (.string (bstr e.S))
theorem slE_seven {w : World} {ad : Addr} {m d : Nat} {es : List Ev} (h : Sl w 7 (some ad) m d (es.flatMap Ev.cells)) {k : Nat} {e : Ev} (hk : es[k]? = some e) : Seven w (ad.add (k * 7)) e := by
  obtain ⟨ad', h1, h2⟩ := slE_at h hk
  cases h1
  exact ⟨h2 0 _ rfl, h2 1 _ rfl, h2 2 _ rfl, h2 3 _ rfl, h2 4 _ rfl, h2 5 _ rfl, h2 6 _ rfl⟩

def Apart (A B : Option Addr) : Prop := ∀ a b, A = some a → B = some b → a.block ≠ b.block
def Lts (A : Option Addr) (w : World) : Prop := ∀ a, A = some a → a.block < w.heap.size
theorem Lts.size {A : Option Addr} {w w' : World} (h : Lts A w) (hs : w.heap.size ≤ w'.heap.size) : Lts A w' := fun a ha => Nat.lt_of_lt_of_le (h a ha) hs
theorem Apart.frm {w : World} {A A' B : Option Addr} (h : Apart A B) (hf : From w A A') (hB : Lts B w) : Apart A' B := by
  intro a b ha hb
  rcases hf a ha with ⟨a0, h0, e0⟩ | h1
  · rw [← e0]; exact h a0 b h0 hb
  · have := hB b hb; omega
theorem Apart.symm {A B : Option Addr} (h : Apart A B) : Apart B A := fun a b ha hb he => h b a hb ha he.symm
theorem App.apart {base size n c : Nat} {e : TypeId} {w w' : World} {A B : Option Addr} {cs : List Value} (h : App base e size w B n c cs) (hg : w.grownBy w' (rowOf base A)) (ha : Apart A B) : App base e size w' B n c cs :=
  h.kept hg (fun b hb he => by
    cases A with
    | none => simp [rowOf] at he
    | some a =>
      simp only [rowOf, Option.bind_some] at he
      by_cases hq : base ≤ a.block
      · rw [if_pos hq] at he
        exact ha a b rfl hb (Option.some.inj he).symm
      · rw [if_neg hq] at he; simp at he)
theorem App.lts {base size n c : Nat} {e : TypeId} {w : World} {A : Option Addr} {cs : List Value} (h : App base e size w A n c cs) (hn : cs ≠ []) : Lts A w := by
  intro a ha
  subst ha
  cases cs with
  | nil => exact absurd rfl hn
  | cons u r =>
    obtain ⟨a', h1, h2⟩ := h.sl.cells 0 u rfl
    cases h1
    have := World.block_lt_of_cell? _ _ h2
    simpa [Addr.add] using this

theorem cs_ne (fs : List Ev) (e : Ev) : bytesV (fs.flatMap evB ++ evB e) ≠ [] := by
  intro h
  have h1 := congrArg List.length h
  rw [bytesV_length, List.length_append, List.length_nil] at h1
  have h2 := evB_pos e
  omega
theorem cells_one (e : Ev) : ∀ u ∈ e.cells, u.oneCell' = true := by
  intro u hu; simp [Ev.cells] at hu; rcases hu with rfl | rfl | rfl | rfl | rfl | rfl | rfl <;> rfl
theorem flat_snoc {α β : Type} (fs : List α) (e : α) (f : α → List β) : (fs ++ [e]).flatMap f = fs.flatMap f ++ f e := by simp
theorem sl7 (w : World) (e : Ev) : Sl (w.alloc (.cells e.cells.toArray 24)) 7 (some ⟨w.heap.size, 0, none⟩) 1 1 e.cells := ⟨(sl_cells w e.cells 24).cells, rfl, Nat.le_refl _, fun h => by cases h⟩
theorem flat_split {α : Type} {fs : List Ev} {j : Nat} {f : Ev} (h : fs[j]? = some f) (g : Ev → List α) : fs.flatMap g = (fs.take j).flatMap g ++ (g f ++ (fs.drop (j + 1)).flatMap g) := by
  obtain ⟨h1, h2⟩ := List.getElem?_eq_some_iff.1 h
  have e1 : fs = fs.take j ++ (f :: fs.drop (j + 1)) := by
    rw [← h2, ← List.drop_eq_getElem_cons h1, List.take_append_drop]
  conv => lhs; rw [e1]
  rw [List.flatMap_append, List.flatMap_cons]
theorem flat_next {α : Type} {fs : List Ev} {j : Nat} {f : Ev} (h : fs[j]? = some f) (g : Ev → List α) : (fs.take (j + 1)).flatMap g = (fs.take j).flatMap g ++ g f := by
  obtain ⟨h1, h2⟩ := List.getElem?_eq_some_iff.1 h
  rw [List.take_add_one, h, List.flatMap_append]
  simp
theorem infoEv : (Try.prog.info? 24).map (fun i => (i.zero, i.size, i.bytes)) = some (some Ev.zero.v, 7, 64) := by kernel_rfl

set_option maxRecDepth 100000 in
set_option maxHeartbeats 8000000 in
theorem walk_evBack (es : List Ev) (P A : Option Addr) (m d n c : Nat) (l : List UInt8) (at_ : Int) (w : World) (hp : LsE w P m d es) (hm : m ≤ 9223372036854775807) (hs : Sl w 1 A n c (bytesV l)) :
    Calls Try.prog 9 #[.slice P m d, .slice A n c, .int .i64 at_] w fun x w' => x = .returned (.bool true) ∧ Below w.heap.size w w' := by
  go_enter Try.func9, Try.ntmps9
  by_cases h2 : (3000 : Int) < (n : Int)
  · go_wp2_with (go_at_call 15; refine (awake11_any _).mono ?_; rintro x w6 ⟨rfl, hn6⟩)
    go_ret
    exact ⟨rfl, hn6⟩
  go_upto_block 0 with fail
  have hd1 : decide ((3000 : Int) < (n : Int)) = false := by simp; omega
  try simp only [hd1]
  clear hd1
  go_cut [7, 8] (fun s7 s8 wx => ∃ (fs : List Ev) (n7 c7 c8 : Nat) (A7 A8 : Option Addr), s7 = .slice A7 n7 c7 ∧ s8 = .slice A8 fs.length c8 ∧ fs.length ≤ 30 ∧ n7 ≤ 110 * fs.length ∧ (∀ f, f ∈ fs → f.ok ∧ rightB f = true) ∧ App w.heap.size 5 1 wx A7 n7 c7 (bytesV (fs.flatMap evB)) ∧ App w.heap.size 24 7 wx A8 fs.length c8 (fs.flatMap Ev.cells) ∧ Below w.heap.size w wx)
  case first =>
    go_wp2_with fail
    go_loopw [7, 8, 9] (fun s7 s8 s9 wx => ∃ (k : Nat) (fs : List Ev) (n7 c7 c8 : Nat) (A7 A8 : Option Addr), k ≤ m ∧ k ≤ 30 ∧ s9 = .int .i64 (k : Int) ∧ s7 = .slice A7 n7 c7 ∧ s8 = .slice A8 fs.length c8 ∧ fs.length ≤ k ∧ n7 ≤ 110 * fs.length ∧ (∀ f, f ∈ fs → f.ok ∧ rightB f = true) ∧ App w.heap.size 5 1 wx A7 n7 c7 (bytesV (fs.flatMap evB)) ∧ App w.heap.size 24 7 wx A8 fs.length c8 (fs.flatMap Ev.cells) ∧ Apart A7 A8 ∧ Lts A7 wx ∧ Lts A8 wx ∧ Below w.heap.size w wx) (fun _ _ iv _ => 31 - (intOf iv).toNat)
    case atStart => exact ⟨0, [], 0, 0, 0, none, none, by omega, by omega, rfl, rfl, rfl, by simp, by simp, by simp, App.nil _ _ _ _, App.nil _ _ _ _, (fun a b h => by cases h), (fun a h => by cases h), (fun a h => by cases h), Below.refl _ _⟩
    case round =>
      obtain ⟨k, fs, n7, c7, c8, A7, A8, hkm, hk30, rfl, rfl, rfl, hfl, hn7, hfs, ha7, ha8, hap, ht7, ht8, hb⟩ := hrel
      have hpx := hp.below hb
      by_cases h3 : (k : Int) < (m : Int)
      · by_cases h4 : (k : Int) < 30
        · obtain ⟨e, he⟩ := get_some es k (by rw [hp.len]; omega)
          obtain ⟨ad, rfl, _⟩ := slE_at hpx.sl he
          have hok : e.ok := hp.ok e (List.mem_of_getElem? he)
          have hin : (0 : Int) ≤ (k : Int) ∧ (k : Int) < (m : Int) := by omega
          have hse : (bstr e.S).size = e.S.length := rfl
          obtain ⟨y0, y1, y2, y3, y4, y5, y6⟩ := slE_seven hpx.sl he
          by_cases h5 : 3000 < e.S.length
          · clear y0 y1 y2 y3 y4 y5
            go_wp2_with (go_at_call 15; refine (awake11_any _).mono ?_; rintro x w6 ⟨rfl, hn6⟩)
            go_ret
            exact ⟨rfl, hb.trans (hn6.mono hb.size)⟩
          · obtain ⟨z, hz⟩ : ∃ z, rightB e = z := ⟨_, rfl⟩
            have Hz := Lib.hid hz
            clear hz
            cases z with
            | true =>
              go_wp2_with fail
              refine (evBytes_any w.heap.size A7 n7 c7 (fs.flatMap evB) e _ ha7 hb.size ht7 (by omega) hok Hz.out).mono ?_; rintro x w3 ⟨A9, n9, c9, rfl, hto⟩
              have hb3 := hb.trans (hto.below hb.size)
              have ha9 := hto.app
              have ha8 := ha8.apart hto.grown hap
              have hap := hap.frm hto.lies ht8
              have ht8 := ht8.size hto.grown.size
              have hl9 := hto.app.sl.blen
              rw [List.length_append, ha7.sl.blen] at hl9
              have hle := evB_len e hok Hz.out
              have hn9 : n9 ≤ 110 * (fs.length + 1) := by omega
              clear hto ha7 ht7 hl9 hle hpx hb y0 y1 y2 y3 y4 y5 y6
              have hp3 := hp.below hb3
              obtain ⟨y0, y1, y2, y3, y4, y5, y6⟩ := slE_seven hp3.sl he
              go_wp2_with fail
              refine (right_any e _ hok.K).mono ?_; rintro x w4 ⟨rfl, hn4⟩
              rw [Hz.out]
              have hb4 := hb3.trans (hn4.mono hb3.size)
              have ha9 := ha9.below hn4
              have ha8 := ha8.below hn4
              have ht8 := ht8.size hn4.size
              have ht9 := ha9.lts (cs_ne fs e)
              clear hp3 hb3 hn4 y0 y1 y2 y3 y4 y5 y6
              have hp4 := hp.below hb4
              obtain ⟨y0, y1, y2, y3, y4, y5, y6⟩ := slE_seven hp4.sl he
              have happ2 := ha8.alloc (.cells #[.int .u8 (e.K : Int), .int .i64 e.At, .int .i64 e.N, .int .i64 e.P, .int .i64 e.A, .int .i64 e.B, .string (bstr e.S)] 24)
              have hsl2 := sl7 w4 e
              have hbn := below_alloc1 w4 (.cells #[.int .u8 (e.K : Int), .int .i64 e.At, .int .i64 e.N, .int .i64 e.P, .int .i64 e.A, .int .i64 e.B, .string (bstr e.S)] 24)
              have hb5 := hb4.trans (hbn.mono hb4.size)
              have ha9 := ha9.below hbn
              have Hbs := Lib.hid hb5.size
              have ht9 := ht9.size hbn.size
              clear ha8 hbn hp4
              go_wp2_with (at_builtin; refine wpList_app _ rfl (.tmp 75) (.tmp 80) 59 rfl w.heap.size 24 Ev.zero.v 7 64 Try.underlying59 infoEv rfl (by decide) A8 fs.length c8 (fs.flatMap Ev.cells) rfl happ2 (some ⟨w4.heap.size, 0, none⟩) 1 1 e.cells rfl hsl2 (cells_one e) (by unfold maxLen; omega) (by omega) Hbs.out ?_; intro A10 d8 w8 hat8)
              have hb8 := hb5.trans ((hat8.below Hbs.out).mono (Nat.le_refl _))
              have ha9 := ha9.apart hat8.grown hap.symm
              have hap2 := (hap.symm.frm hat8.lies ht9).symm
              have ha10 := hat8.app
              have ht9 := ht9.size hat8.grown.size
              have ht10 := ha10.lts (by simp [Ev.cells])
              go_roundw
              case rel => exact ⟨k + 1, fs ++ [e], n9, c9, d8, A9, A10, by omega, by omega, by go_num, rfl, by rw [List.length_append]; rfl, by rw [List.length_append, List.length_singleton]; omega, by rw [List.length_append, List.length_singleton]; exact hn9, by intro f hf; rw [List.mem_append, List.mem_singleton] at hf; rcases hf with hf | rfl; exact hfs f hf; exact ⟨hok, Hz.out⟩, by rw [flat_snoc]; exact ha9, by rw [List.length_append, List.length_singleton, flat_snoc]; exact ha10, hap2, ht9, ht10, hb8⟩
              case measure => simp [intOf]; omega
            | false =>
              go_wp2_with fail
              refine (evBytes_none A7 n7 c7 e _ hok Hz.out).mono ?_; rintro x w3 ⟨rfl, hn3⟩
              have hb3 := hb.trans (hn3.mono hb.size)
              have ha7 := ha7.below hn3
              have ha8 := ha8.below hn3
              have ht7 := ht7.size hn3.size
              have ht8 := ht8.size hn3.size
              clear hpx hb hn3 y0 y1 y2 y3 y4 y5 y6
              have hp3 := hp.below hb3
              obtain ⟨y0, y1, y2, y3, y4, y5, y6⟩ := slE_seven hp3.sl he
              go_wp2_with fail
              refine (right_any e _ hok.K).mono ?_; rintro x w4 ⟨rfl, hn4⟩
              rw [Hz.out]
              have hb4 := hb3.trans (hn4.mono hb3.size)
              have ha7 := ha7.below hn4
              have ha8 := ha8.below hn4
              have ht7 := ht7.size hn4.size
              have ht8 := ht8.size hn4.size
              clear hp3 hb3 hn4 y0 y1 y2 y3 y4 y5 y6
              go_wp2_with fail
              go_roundw
              case rel => exact ⟨k + 1, fs, n7, c7, c8, A7, A8, by omega, by omega, by go_num, rfl, rfl, by omega, hn7, hfs, ha7, ha8, hap, ht7, ht8, hb4⟩
              case measure => simp [intOf]; omega
        · go_wp2_with fail
          go_meet
          exact ⟨fs, n7, c7, c8, A7, A8, rfl, rfl, by omega, hn7, hfs, ha7, ha8, hb⟩
      · go_wp2_with fail
        go_meet
        exact ⟨fs, n7, c7, c8, A7, A8, rfl, rfl, by omega, hn7, hfs, ha7, ha8, hb⟩
  case rest =>
    obtain ⟨fs, n7, c7, c8, A7, A8, rfl, rfl, hf30, hn7, hfs, ha7, ha8, hb⟩ := hcut
    have s7 := ha7.sl
    have s8 := ha8.sl
    have sb := hs.below hb
    clear ha7 ha8 hs hp hm
    go_upto_block 2 with fail
    go_cut [12] (fun s12 wx => s12 = .int .i64 (n7 : Int) ∧ Below wc.heap.size wc wx)
    case first =>
      go_wp2_with fail
      go_loopw [12, 84] (fun s12 s84 wx => ∃ (j : Nat), j ≤ fs.length ∧ s84 = .int .i64 (j : Int) ∧ s12 = .int .i64 (((fs.take j).flatMap evB).length : Int) ∧ Below wc.heap.size wc wx) (fun _ iv _ => fs.length - (intOf iv).toNat)
      case atStart => exact ⟨0, by omega, rfl, rfl, Below.refl _ _⟩
      case round =>
        obtain ⟨j, hj, rfl, rfl, hbx⟩ := hrel
        by_cases h3 : (j : Int) < (fs.length : Int)
        · obtain ⟨f, hf⟩ := get_some fs j (by omega)
          obtain ⟨hfo, hfr⟩ := hfs f (List.mem_of_getElem? hf)
          have hsp := flat_split hf evB
          have hnx := congrArg List.length (flat_next hf evB)
          have hls := s7.blen
          have hrd := rdE_ev ((fs.take j).flatMap evB) ((fs.drop (j + 1)).flatMap evB) f hfo hfr
          rw [← hsp] at hrd
          have hls2 := hls
          rw [hsp, List.length_append, List.length_append] at hls2
          rw [List.length_append] at hnx
          obtain ⟨pl, hpl⟩ : ∃ p, p = ((fs.take j).flatMap evB).length := ⟨_, rfl⟩
          rw [← hpl] at hrd hnx hls2 ⊢
          have hpos := evB_pos f
          obtain ⟨ql, hql⟩ : ∃ q, q = pl + (evB f).length := ⟨_, rfl⟩
          rw [← hql] at hrd hnx
          have hlt : pl < ql := by omega
          have hqn : ql ≤ n7 := by omega
          have Hrd := Lib.hid hrd
          have Hnx := Lib.hid hnx
          have Hls := Lib.hid hls
          clear hsp hrd hnx hls hls2 hpl hpos hql
          obtain ⟨ad8, rfl, _⟩ := slE_at s8 hf
          have t8 := s8.below hbx
          obtain ⟨y0, y1, y2, y3, y4, y5, y6⟩ := slE_seven t8 hf
          have hin : (0 : Int) ≤ (j : Int) ∧ (j : Int) < (fs.length : Int) := by omega
          have hbe := box_in wr f
          have hbn := below_alloc1 wr (.cells f.cells.toArray 24)
          simp only [Ev.cells] at hbe hbn
          go_wp2_with fail
          have hb2 := hbx.trans (hbn.mono hbx.size)
          generalize wr.alloc (.cells #[.int .u8 (f.K : Int), .int .i64 f.At, .int .i64 f.N, .int .i64 f.P, .int .i64 f.A, .int .i64 f.B, .string (bstr f.S)] 24) = w2 at *
          clear y0 y1 y2 y3 y4 y5 y6 hbn t8
          refine (read_any A7 n7 c7 (fs.flatMap evB) (pl : Int) _ (s7.below hb2) (by omega) (by omega)).mono ?_; rintro x w3 ⟨rfl, hb3⟩
          rw [rdEv_at _ _ (by rw [Hls.out]; omega), Hrd.out]
          have hbe := hbe.below hb3
          have hb4 := hb2.trans (hb3.mono hb2.size)
          clear hb2 hb3 hbx
          have hbe5 := box_in w3 f
          have hb5 := below_alloc1 w3 (.cells f.cells.toArray 24)
          have hbe := hbe.below hb5
          have hb6 := hb4.trans (hb5.mono hb4.size)
          clear hb5
          simp only [Ev.v, Ev.cells]
          simp only [Ev.cells] at hbe hbe5 hb6
          go_upto_region 20 with fail
          generalize w3.alloc (.cells #[.int .u8 (f.K : Int), .int .i64 f.At, .int .i64 f.N, .int .i64 f.P, .int .i64 f.A, .int .i64 f.B, .string (bstr f.S)] 24) = w5 at *
          --@region 9 20 eb20.spec
          refine wp_region_lrun ?_
          apply RunL.pure
          · intro vs w hb hd; clear hd; simp only [List.take, putL, Act.put, List.setIfInBounds_toArray, List.set_cons_zero, List.set_cons_succ]; unfold StepOK; go_simp; exact ⟨Below.refl _ _, isV_mk _ _⟩
          apply RunL.pure
          · intro vs w hb hd; have d0 : isV _ (vs 0) w := hd 0 (by decide) (by kernel_rfl); unfold isV at d0; clear hd; simp only [List.take, putL, Act.put, List.setIfInBounds_toArray, List.set_cons_zero, List.set_cons_succ]; unfold StepOK; go_simp; exact ⟨Below.refl _ _, isV_mk _ _⟩
          apply RunL.pure
          · intro vs w hb hd; have d1 : isV _ (vs 1) w := hd 1 (by decide) (by kernel_rfl); unfold isV at d1; clear hd; simp only [List.take, putL, Act.put, List.setIfInBounds_toArray, List.set_cons_zero, List.set_cons_succ]; unfold StepOK; go_simp; exact ⟨Below.refl _ _, isV_mk _ _⟩
          refine RunL.such (isV f.v) (isV_stable _) ?_ ?_
          · intro vs w hb hd; have d2 : isV _ (vs 2) w := hd 2 (by decide) (by kernel_rfl); unfold isV at d2; clear hd; have hk := hbe5.below hb; have k0 := hk 0 _ rfl; have k1 := hk 1 _ rfl; have k2 := hk 2 _ rfl; have k3 := hk 3 _ rfl; have k4 := hk 4 _ rfl; have k5 := hk 5 _ rfl; have k6 := hk 6 _ rfl; simp only [List.take, putL, Act.put, List.setIfInBounds_toArray, List.set_cons_zero, List.set_cons_succ]; unfold StepOK; go_simp; exact ⟨Below.refl _ _, isV_mk _ _⟩
          refine RunL.such (isV f.v) (isV_stable _) ?_ ?_
          · intro vs w hb hd; have d2 : isV _ (vs 2) w := hd 2 (by decide) (by kernel_rfl); unfold isV at d2; clear hd; have hk := hbe.below hb; have k0 := hk 0 _ rfl; have k1 := hk 1 _ rfl; have k2 := hk 2 _ rfl; have k3 := hk 3 _ rfl; have k4 := hk 4 _ rfl; have k5 := hk 5 _ rfl; have k6 := hk 6 _ rfl; simp only [List.take, putL, Act.put, List.setIfInBounds_toArray, List.set_cons_zero, List.set_cons_succ]; unfold StepOK; go_simp; exact ⟨Below.refl _ _, isV_mk _ _⟩
          refine RunL.such (isV (.bool false)) (isV_stable _) ?_ ?_
          · intro vs w hb hd; have d2 : isV _ (vs 2) w := hd 2 (by decide) (by kernel_rfl); unfold isV at d2; have d3 := hd 3 (by decide) (by kernel_rfl); simp only [TR, Nat.reduceAdd, Nat.reduceSub, List.getD_cons_zero, List.getD_cons_succ] at d3; have d4 := hd 4 (by decide) (by kernel_rfl); simp only [TR, Nat.reduceAdd, Nat.reduceSub, List.getD_cons_zero, List.getD_cons_succ] at d4; clear hd; unfold isV at d3 d4; simp only [Ev.v, Ev.cells] at d3 d4; simp only [List.take, putL, Act.put, List.setIfInBounds_toArray, List.set_cons_zero, List.set_cons_succ]; unfold StepOK; go_simp; exact ⟨Below.refl _ _, isV_mk _ _⟩
          apply RunL.pure
          · intro vs w hb hd; have d2 : isV _ (vs 2) w := hd 2 (by decide) (by kernel_rfl); unfold isV at d2; have d5 := hd 5 (by decide) (by kernel_rfl); simp only [TR, Nat.reduceAdd, Nat.reduceSub, List.getD_cons_zero, List.getD_cons_succ] at d5; clear hd; unfold isV at d5; simp only [List.take, putL, Act.put, List.setIfInBounds_toArray, List.set_cons_zero, List.set_cons_succ]; unfold StepOK; go_simp; exact ⟨Below.refl _ _, isV_mk _ _⟩
          apply RunL.pure
          · intro vs w hb hd; have d2 : isV _ (vs 2) w := hd 2 (by decide) (by kernel_rfl); unfold isV at d2; have d6 : isV _ (vs 6) w := hd 6 (by decide) (by kernel_rfl); unfold isV at d6; clear hd; simp only [List.take, putL, Act.put, List.setIfInBounds_toArray, List.set_cons_zero, List.set_cons_succ]; unfold StepOK; go_simp; exact ⟨Below.refl _ _, isV_mk _ _⟩
          apply RunL.pure
          · intro vs w hb hd; have d7 : isV _ (vs 7) w := hd 7 (by decide) (by kernel_rfl); unfold isV at d7; clear hd; simp only [List.take, putL, Act.put, List.setIfInBounds_toArray, List.set_cons_zero, List.set_cons_succ]; unfold StepOK; go_simp; exact ⟨Below.refl _ _, isV_mk _ _⟩
          apply RunL.pure
          · intro vs w hb hd; have d7 : isV _ (vs 7) w := hd 7 (by decide) (by kernel_rfl); unfold isV at d7; clear hd; simp only [List.take, putL, Act.put, List.setIfInBounds_toArray, List.set_cons_zero, List.set_cons_succ]; unfold StepOK; go_simp; exact ⟨Below.refl _ _, isV_mk _ _⟩
          apply RunL.pure
          · intro vs w hb hd; have d7 : isV _ (vs 7) w := hd 7 (by decide) (by kernel_rfl); unfold isV at d7; have d8 : isV _ (vs 8) w := hd 8 (by decide) (by kernel_rfl); unfold isV at d8; have d9 : isV _ (vs 9) w := hd 9 (by decide) (by kernel_rfl); unfold isV at d9; clear hd; have hq : ¬ ql ≤ pl := by { omega }; simp only [List.take, putL, Act.put, List.setIfInBounds_toArray, List.set_cons_zero, List.set_cons_succ]; unfold StepOK; go_simp; exact ⟨Below.refl _ _, isV_mk _ _⟩
          apply RunL.pure
          · intro vs w hb hd; have d7 : isV _ (vs 7) w := hd 7 (by decide) (by kernel_rfl); unfold isV at d7; have d10 : isV _ (vs 10) w := hd 10 (by decide) (by kernel_rfl); unfold isV at d10; clear hd; simp only [List.take, putL, Act.put, List.setIfInBounds_toArray, List.set_cons_zero, List.set_cons_succ]; unfold StepOK; go_simp; exact ⟨Below.refl _ _, isV_mk _ _⟩
          intro vs w1 hb hd
          have e0 : isV _ (vs 0) w1 := hd 0 (by decide)
          have e1 : isV _ (vs 1) w1 := hd 1 (by decide)
          have e2 : isV _ (vs 2) w1 := hd 2 (by decide)
          have e3 := hd 3 (by decide); simp only [TR, Nat.reduceAdd, Nat.reduceSub, List.getD_cons_zero, List.getD_cons_succ] at e3
          have e4 := hd 4 (by decide); simp only [TR, Nat.reduceAdd, Nat.reduceSub, List.getD_cons_zero, List.getD_cons_succ] at e4
          have e5 := hd 5 (by decide); simp only [TR, Nat.reduceAdd, Nat.reduceSub, List.getD_cons_zero, List.getD_cons_succ] at e5
          have e6 : isV _ (vs 6) w1 := hd 6 (by decide)
          have e7 : isV _ (vs 7) w1 := hd 7 (by decide)
          have e8 : isV _ (vs 8) w1 := hd 8 (by decide)
          have e9 : isV _ (vs 9) w1 := hd 9 (by decide)
          have e10 : isV _ (vs 10) w1 := hd 10 (by decide)
          have e11 : isV _ (vs 11) w1 := hd 11 (by decide)
          clear hd
          unfold isV at e0 e1 e2 e6 e7 e8 e9 e10 e11
          simp only [putL, Act.put, List.setIfInBounds_toArray, List.set_cons_zero, List.set_cons_succ, e0, e1, e2, e6, e7, e8, e9, e10, e11]
          clear e0 e1 e2 e6 e7 e8 e9 e10 e11
          --@end
          have hb7 := hb6.trans (hb.mono hb6.size)
          clear e3 e4 e5 hbe hbe5 hb6 hb
          go_wp2_with fail
          go_roundw
          case rel => exact ⟨j + 1, by omega, by go_num, by rw [Hnx.out], hb7⟩
          case measure => simp [intOf]; omega
        · obtain rfl : j = fs.length := by omega
          go_wp2_with fail
          go_meet
          exact ⟨by rw [← s7.blen]; simp, hbx⟩
    case rest =>
      obtain ⟨rfl, hbx⟩ := hcut
      rename_i wq
      have sb := sb.below hbx
      have hb := hb.trans (hbx.mono hb.size)
      have hls := sb.blen
      have hn3 : n ≤ 3000 := by omega
      clear hbx s7 s8 h2
      go_wp2_with fail
      rw [show ((n : Int) + 1) = ((n + 1 : Nat) : Int) by omega]
      refine (pickK_any at_ (n + 1) _ (by omega) (by omega)).mono ?_; rintro x w' ⟨⟨k, hk, rfl⟩, rfl⟩
      have hkn : k ≤ n := by omega
      go_wp2_with fail
      refine (read_any A n c l (k : Int) _ sb (by omega) (by omega)).mono ?_; rintro x w3 ⟨rfl, hb3⟩
      rw [rdEv_at _ _ (by omega)]
      clear hls
      obtain ⟨⟨r, q, x⟩, hrd⟩ : ∃ g, rdE l k = g := ⟨_, rfl⟩
      rw [hrd]
      have Hrd := Lib.hid hrd
      clear hrd
      have sb := sb.below hb3
      have hb4 := hb.trans (hb3.mono hb.size)
      clear hb3 hb
      have hbe5 := box_in w3 r
      have hb5 := below_alloc1 w3 (.cells r.cells.toArray 24)
      have sb := sb.below hb5
      have hb6 := hb4.trans (hb5.mono hb4.size)
      clear hb5
      simp only [Ev.v, Ev.cells]
      simp only [Ev.cells] at sb hbe5 hb6
      go_upto_region 28 with fail
      generalize w3.alloc (.cells #[.int .u8 (r.K : Int), .int .i64 r.At, .int .i64 r.N, .int .i64 r.P, .int .i64 r.A, .int .i64 r.B, .string (bstr r.S)] 24) = w5 at *
      by_cases hx : x = 0
      · subst hx
        obtain ⟨hok, hr, hql, hqe, hbk⟩ := rdE_back Hrd.out
        have hls := sb.blen
        have hkq : k ≤ q := by rw [hqe]; exact Nat.le_add_right _ _
        have hqn : q ≤ n := by rw [← hls]; exact hql
        have hqi : (q : Int) ≤ (n : Int) := Int.ofNat_le.2 hqn
        have Hbk := Lib.hid hbk
        clear hbk hqe hql hls
        obtain ⟨AX, hcut, _, hsl⟩ := cutb_mid .i64 .i64 A n c k q (k : Int) (q : Int) rfl rfl hkq hqn sb.le
        have e0 := hbe5 0 _ rfl
        have e1 := hbe5 1 _ rfl
        have e2 := hbe5 2 _ rfl
        have e3 := hbe5 3 _ rfl
        have e4 := hbe5 4 _ rfl
        have e5 := hbe5 5 _ rfl
        have e6 := hbe5 6 _ rfl
        clear hbe5
        go_wp2_with fail
        refine (evBytes_any w5.heap.size none 0 0 [] r _ (App.nil _ _ _ _) (Nat.le_refl _) (fun ad h => by cases h) (by omega) hok hr).mono ?_; rintro x w7 ⟨A3, n3, c3, rfl, hto⟩
        have hn7 := hto.below (Nat.le_refl _)
        have sa := hto.app.sl
        rw [List.nil_append] at sa
        have sb := sb.below hn7
        have sx := hsl w7 l sb
        have hb8 := hb6.trans (hn7.mono hb6.size)
        clear e0 e1 e2 e3 e4 e5 e6 hto hn7 hsl hb6
        go_upto_region 31 with fail
        --@region 9 31 eb31.spec
        refine wp_region_lrun ?_
        apply RunL.pure
        · intro vs w hb hd; clear hd; simp only [List.take, putL, Act.put, List.setIfInBounds_toArray, List.set_cons_zero, List.set_cons_succ]; unfold StepOK; go_simp; exact ⟨Below.refl _ _, isV_mk _ _⟩
        apply RunL.pure
        · intro vs w hb hd; have d0 : isV _ (vs 0) w := hd 0 (by decide) (by kernel_rfl); unfold isV at d0; clear hd; simp only [List.take, putL, Act.put, List.setIfInBounds_toArray, List.set_cons_zero, List.set_cons_succ]; unfold StepOK; go_simp; exact ⟨Below.refl _ _, isV_mk _ _⟩
        apply RunL.pure
        · intro vs w hb hd; have d1 : isV _ (vs 1) w := hd 1 (by decide) (by kernel_rfl); unfold isV at d1; clear hd; simp only [List.take, putL, Act.put, List.setIfInBounds_toArray, List.set_cons_zero, List.set_cons_succ]; unfold StepOK; go_simp; exact ⟨Below.refl _ _, isV_mk _ _⟩
        apply RunL.pure
        · intro vs w hb hd; have d2 : isV _ (vs 2) w := hd 2 (by decide) (by kernel_rfl); unfold isV at d2; clear hd; simp only [List.take, putL, Act.put, List.setIfInBounds_toArray, List.set_cons_zero, List.set_cons_succ]; unfold StepOK; go_simp; exact ⟨Below.refl _ _, isV_mk _ _⟩
        apply RunL.pure
        · intro vs w hb hd; have d2 : isV _ (vs 2) w := hd 2 (by decide) (by kernel_rfl); unfold isV at d2; clear hd; simp only [List.take, putL, Act.put, List.setIfInBounds_toArray, List.set_cons_zero, List.set_cons_succ]; unfold StepOK; go_simp; exact ⟨Below.refl _ _, isV_mk _ _⟩
        apply RunL.pure
        · intro vs w hb hd; have d2 : isV _ (vs 2) w := hd 2 (by decide) (by kernel_rfl); unfold isV at d2; have d4 : isV _ (vs 4) w := hd 4 (by decide) (by kernel_rfl); unfold isV at d4; clear hd; simp only [List.take, putL, Act.put, List.setIfInBounds_toArray, List.set_cons_zero, List.set_cons_succ]; unfold StepOK; go_simp; exact ⟨Below.refl _ _, isV_mk _ _⟩
        apply RunL.pure
        · intro vs w hb hd; have d2 : isV _ (vs 2) w := hd 2 (by decide) (by kernel_rfl); unfold isV at d2; have d3 : isV _ (vs 3) w := hd 3 (by decide) (by kernel_rfl); unfold isV at d3; have d5 : isV _ (vs 5) w := hd 5 (by decide) (by kernel_rfl); unfold isV at d5; clear hd; have hq := hqi; simp only [List.take, putL, Act.put, List.setIfInBounds_toArray, List.set_cons_zero, List.set_cons_succ]; unfold StepOK; go_simp; exact ⟨Below.refl _ _, isV_mk _ _⟩
        apply RunL.pure
        · intro vs w hb hd; have d2 : isV _ (vs 2) w := hd 2 (by decide) (by kernel_rfl); unfold isV at d2; have d6 : isV _ (vs 6) w := hd 6 (by decide) (by kernel_rfl); unfold isV at d6; clear hd; simp only [List.take, putL, Act.put, List.setIfInBounds_toArray, List.set_cons_zero, List.set_cons_succ]; unfold StepOK; go_simp; exact ⟨Below.refl _ _, isV_mk _ _⟩
        apply RunL.pure
        · intro vs w hb hd; have d2 : isV _ (vs 2) w := hd 2 (by decide) (by kernel_rfl); unfold isV at d2; have d7 : isV _ (vs 7) w := hd 7 (by decide) (by kernel_rfl); unfold isV at d7; clear hd; simp only [List.take, putL, Act.put, List.setIfInBounds_toArray, List.set_cons_zero, List.set_cons_succ]; unfold StepOK; go_simp; exact ⟨Below.refl _ _, isV_mk _ _⟩
        apply RunL.pure
        · intro vs w hb hd; have d8 : isV _ (vs 8) w := hd 8 (by decide) (by kernel_rfl); unfold isV at d8; clear hd; simp only [List.take, putL, Act.put, List.setIfInBounds_toArray, List.set_cons_zero, List.set_cons_succ]; unfold StepOK; go_simp; exact ⟨Below.refl _ _, isV_mk _ _⟩
        apply RunL.pure
        · intro vs w hb hd; have d8 : isV _ (vs 8) w := hd 8 (by decide) (by kernel_rfl); unfold isV at d8; clear hd; simp only [List.take, putL, Act.put, List.setIfInBounds_toArray, List.set_cons_zero, List.set_cons_succ]; unfold StepOK; go_simp; exact ⟨Below.refl _ _, isV_mk _ _⟩
        apply RunL.pure
        · intro vs w hb hd; have d8 : isV _ (vs 8) w := hd 8 (by decide) (by kernel_rfl); unfold isV at d8; clear hd; simp only [List.take, putL, Act.put, List.setIfInBounds_toArray, List.set_cons_zero, List.set_cons_succ]; unfold StepOK; go_simp; exact ⟨Below.refl _ _, isV_mk _ _⟩
        apply RunL.pure
        · intro vs w hb hd; have d8 : isV _ (vs 8) w := hd 8 (by decide) (by kernel_rfl); unfold isV at d8; clear hd; simp only [List.take, putL, Act.put, List.setIfInBounds_toArray, List.set_cons_zero, List.set_cons_succ]; unfold StepOK; go_simp; exact ⟨Below.refl _ _, isV_mk _ _⟩
        apply RunL.pure
        · intro vs w hb hd; have d8 : isV _ (vs 8) w := hd 8 (by decide) (by kernel_rfl); unfold isV at d8; have d10 : isV _ (vs 10) w := hd 10 (by decide) (by kernel_rfl); unfold isV at d10; have d11 : isV _ (vs 11) w := hd 11 (by decide) (by kernel_rfl); unfold isV at d11; have d12 : isV _ (vs 12) w := hd 12 (by decide) (by kernel_rfl); unfold isV at d12; clear hd; have hq := hcut w; simp only [List.take, putL, Act.put, List.setIfInBounds_toArray, List.set_cons_zero, List.set_cons_succ]; unfold StepOK; go_simp; exact ⟨Below.refl _ _, isV_mk _ _⟩
        refine RunL.such (isV (.bool true)) (isV_stable _) ?_ ?_
        · intro vs w hb hd; have d8 : isV _ (vs 8) w := hd 8 (by decide) (by kernel_rfl); unfold isV at d8; have d9 : isV _ (vs 9) w := hd 9 (by decide) (by kernel_rfl); unfold isV at d9; have d13 : isV _ (vs 13) w := hd 13 (by decide) (by kernel_rfl); unfold isV at d13; clear hd; simp only [List.take, putL, Act.put, List.setIfInBounds_toArray, List.set_cons_zero, List.set_cons_succ]; unfold StepOK; go_simp; exact ⟨Below.refl _ _, such_of_bool (sameBytes_lit _ _ _ _ _ _ _ _ true _ (sa.below hb) (sx.below hb) (by rw [Hbk.out]; simp))⟩
        apply RunL.pure
        · intro vs w hb hd; have d8 : isV _ (vs 8) w := hd 8 (by decide) (by kernel_rfl); unfold isV at d8; have d14 := hd 14 (by decide) (by kernel_rfl); simp only [TR, Nat.reduceAdd, Nat.reduceSub, List.getD_cons_zero, List.getD_cons_succ] at d14; clear hd; unfold isV at d14; simp only [List.take, putL, Act.put, List.setIfInBounds_toArray, List.set_cons_zero, List.set_cons_succ]; unfold StepOK; go_simp; exact ⟨Below.refl _ _, isV_mk _ _⟩
        apply RunL.pure
        · intro vs w hb hd; have d14 := hd 14 (by decide) (by kernel_rfl); simp only [TR, Nat.reduceAdd, Nat.reduceSub, List.getD_cons_zero, List.getD_cons_succ] at d14; have d15 : isV _ (vs 15) w := hd 15 (by decide) (by kernel_rfl); unfold isV at d15; clear hd; simp only [List.take, putL, Act.put, List.setIfInBounds_toArray, List.set_cons_zero, List.set_cons_succ]; unfold StepOK; go_simp; exact ⟨Below.refl _ _, isV_mk _ _⟩
        refine RunL.such (isV (.bool true)) (isV_stable _) ?_ ?_
        · intro vs w hb hd; have d16 : isV _ (vs 16) w := hd 16 (by decide) (by kernel_rfl); unfold isV at d16; clear hd; simp only [List.take, putL, Act.put, List.setIfInBounds_toArray, List.set_cons_zero, List.set_cons_succ]; unfold StepOK; go_simp; exact ⟨Below.refl _ _, such_of_bool (awake11_any _)⟩
        apply RunL.pure
        · intro vs w hb hd; have d16 : isV _ (vs 16) w := hd 16 (by decide) (by kernel_rfl); unfold isV at d16; have d17 := hd 17 (by decide) (by kernel_rfl); simp only [TR, Nat.reduceAdd, Nat.reduceSub, List.getD_cons_zero, List.getD_cons_succ] at d17; clear hd; unfold isV at d17; simp only [List.take, putL, Act.put, List.setIfInBounds_toArray, List.set_cons_zero, List.set_cons_succ]; unfold StepOK; go_simp; exact ⟨Below.refl _ _, isV_mk _ _⟩
        apply RunL.pure
        · intro vs w hb hd; have d0 : isV _ (vs 0) w := hd 0 (by decide) (by kernel_rfl); unfold isV at d0; have d1 : isV _ (vs 1) w := hd 1 (by decide) (by kernel_rfl); unfold isV at d1; have d2 : isV _ (vs 2) w := hd 2 (by decide) (by kernel_rfl); unfold isV at d2; have d3 : isV _ (vs 3) w := hd 3 (by decide) (by kernel_rfl); unfold isV at d3; have d4 : isV _ (vs 4) w := hd 4 (by decide) (by kernel_rfl); unfold isV at d4; have d5 : isV _ (vs 5) w := hd 5 (by decide) (by kernel_rfl); unfold isV at d5; have d6 : isV _ (vs 6) w := hd 6 (by decide) (by kernel_rfl); unfold isV at d6; have d7 : isV _ (vs 7) w := hd 7 (by decide) (by kernel_rfl); unfold isV at d7; have d8 : isV _ (vs 8) w := hd 8 (by decide) (by kernel_rfl); unfold isV at d8; have d9 : isV _ (vs 9) w := hd 9 (by decide) (by kernel_rfl); unfold isV at d9; have d10 : isV _ (vs 10) w := hd 10 (by decide) (by kernel_rfl); unfold isV at d10; have d11 : isV _ (vs 11) w := hd 11 (by decide) (by kernel_rfl); unfold isV at d11; have d12 : isV _ (vs 12) w := hd 12 (by decide) (by kernel_rfl); unfold isV at d12; have d13 : isV _ (vs 13) w := hd 13 (by decide) (by kernel_rfl); unfold isV at d13; have d14 := hd 14 (by decide) (by kernel_rfl); simp only [TR, Nat.reduceAdd, Nat.reduceSub, List.getD_cons_zero, List.getD_cons_succ] at d14; have d15 : isV _ (vs 15) w := hd 15 (by decide) (by kernel_rfl); unfold isV at d15; have d16 : isV _ (vs 16) w := hd 16 (by decide) (by kernel_rfl); unfold isV at d16; have d17 := hd 17 (by decide) (by kernel_rfl); simp only [TR, Nat.reduceAdd, Nat.reduceSub, List.getD_cons_zero, List.getD_cons_succ] at d17; have d18 : isV _ (vs 18) w := hd 18 (by decide) (by kernel_rfl); unfold isV at d18; clear hd; simp only [List.take, putL, Act.put, List.setIfInBounds_toArray, List.set_cons_zero, List.set_cons_succ]; unfold StepOK; go_simp; exact ⟨Below.refl _ _, isV_mk _ _⟩
        intro vs w1 hb hd
        have e0 : isV _ (vs 0) w1 := hd 0 (by decide)
        have e1 : isV _ (vs 1) w1 := hd 1 (by decide)
        have e2 : isV _ (vs 2) w1 := hd 2 (by decide)
        have e3 : isV _ (vs 3) w1 := hd 3 (by decide)
        have e4 : isV _ (vs 4) w1 := hd 4 (by decide)
        have e5 : isV _ (vs 5) w1 := hd 5 (by decide)
        have e6 : isV _ (vs 6) w1 := hd 6 (by decide)
        have e7 : isV _ (vs 7) w1 := hd 7 (by decide)
        have e8 : isV _ (vs 8) w1 := hd 8 (by decide)
        have e9 : isV _ (vs 9) w1 := hd 9 (by decide)
        have e10 : isV _ (vs 10) w1 := hd 10 (by decide)
        have e11 : isV _ (vs 11) w1 := hd 11 (by decide)
        have e12 : isV _ (vs 12) w1 := hd 12 (by decide)
        have e13 : isV _ (vs 13) w1 := hd 13 (by decide)
        have e14 := hd 14 (by decide); simp only [TR, Nat.reduceAdd, Nat.reduceSub, List.getD_cons_zero, List.getD_cons_succ] at e14
        have e15 : isV _ (vs 15) w1 := hd 15 (by decide)
        have e16 : isV _ (vs 16) w1 := hd 16 (by decide)
        have e17 := hd 17 (by decide); simp only [TR, Nat.reduceAdd, Nat.reduceSub, List.getD_cons_zero, List.getD_cons_succ] at e17
        have e18 : isV _ (vs 18) w1 := hd 18 (by decide)
        have e19 : isV _ (vs 19) w1 := hd 19 (by decide)
        clear hd
        unfold isV at e0 e1 e2 e3 e4 e5 e6 e7 e8 e9 e10 e11 e12 e13 e15 e16 e18 e19
        simp only [putL, Act.put, List.setIfInBounds_toArray, List.set_cons_zero, List.set_cons_succ, e0, e1, e2, e3, e4, e5, e6, e7, e8, e9, e10, e11, e12, e13, e15, e16, e18, e19]
        clear e0 e1 e2 e3 e4 e5 e6 e7 e8 e9 e10 e11 e12 e13 e15 e16 e18 e19
        --@end
        clear e14 e17 hcut sa sb sx Hbk Hrd
        have hb9 := hb8.trans (hb.mono hb8.size)
        go_wp2_with fail
        go_ret
        exact ⟨rfl, hb9⟩
      · obtain ⟨hr0, rfl⟩ := rdE_err l k Hrd.out hx
        have hx0 : 0 < x := by omega
        have Hr0 := Lib.hid hr0
        clear hr0 Hrd
        have hbe6 := hbe5
        clear hbe5
        go_upto_region 29 with fail
        have hr0 := Hr0.out
        subst hr0
        have hbe5 := hbe6
        --@region 9 29 eb29.spec
        refine wp_region_lrun ?_
        refine RunL.such (isV Ev.zero.v) (isV_stable _) ?_ ?_
        · intro vs w hb hd; clear hd; have hk := hbe5.below hb; have k0 := hk 0 _ rfl; have k1 := hk 1 _ rfl; have k2 := hk 2 _ rfl; have k3 := hk 3 _ rfl; have k4 := hk 4 _ rfl; have k5 := hk 5 _ rfl; have k6 := hk 6 _ rfl; simp only [List.take, putL, Act.put, List.setIfInBounds_toArray, List.set_cons_zero, List.set_cons_succ]; unfold StepOK; go_simp; exact ⟨Below.refl _ _, isV_mk _ _⟩
        apply RunL.pure
        · intro vs w hb hd; clear hd; simp only [List.take, putL, Act.put, List.setIfInBounds_toArray, List.set_cons_zero, List.set_cons_succ]; unfold StepOK; go_simp; exact ⟨Below.refl _ _, isV_mk _ _⟩
        refine RunL.such (isV (.bool true)) (isV_stable _) ?_ ?_
        · intro vs w hb hd; have d0 := hd 0 (by decide) (by kernel_rfl); simp only [TR, Nat.reduceAdd, Nat.reduceSub, List.getD_cons_zero, List.getD_cons_succ] at d0; have d1 : isV _ (vs 1) w := hd 1 (by decide) (by kernel_rfl); unfold isV at d1; clear hd; unfold isV at d0; simp only [Ev.v, Ev.cells, Ev.zero] at d0; simp only [List.take, putL, Act.put, List.setIfInBounds_toArray, List.set_cons_zero, List.set_cons_succ]; unfold StepOK; go_simp; exact ⟨Below.refl _ _, isV_mk _ _⟩
        apply RunL.pure
        · intro vs w hb hd; have d2 := hd 2 (by decide) (by kernel_rfl); simp only [TR, Nat.reduceAdd, Nat.reduceSub, List.getD_cons_zero, List.getD_cons_succ] at d2; clear hd; unfold isV at d2; simp only [List.take, putL, Act.put, List.setIfInBounds_toArray, List.set_cons_zero, List.set_cons_succ]; unfold StepOK; go_simp; exact ⟨Below.refl _ _, isV_mk _ _⟩
        apply RunL.pure
        · intro vs w hb hd; have d3 : isV _ (vs 3) w := hd 3 (by decide) (by kernel_rfl); unfold isV at d3; clear hd; simp only [List.take, putL, Act.put, List.setIfInBounds_toArray, List.set_cons_zero, List.set_cons_succ]; unfold StepOK; go_simp; exact ⟨Below.refl _ _, isV_mk _ _⟩
        apply RunL.pure
        · intro vs w hb hd; have d3 : isV _ (vs 3) w := hd 3 (by decide) (by kernel_rfl); unfold isV at d3; have d4 : isV _ (vs 4) w := hd 4 (by decide) (by kernel_rfl); unfold isV at d4; clear hd; simp only [List.take, putL, Act.put, List.setIfInBounds_toArray, List.set_cons_zero, List.set_cons_succ]; unfold StepOK; go_simp; exact ⟨Below.refl _ _, isV_mk _ _⟩
        apply RunL.pure
        · intro vs w hb hd; have d3 : isV _ (vs 3) w := hd 3 (by decide) (by kernel_rfl); unfold isV at d3; have d5 : isV _ (vs 5) w := hd 5 (by decide) (by kernel_rfl); unfold isV at d5; clear hd; simp only [List.take, putL, Act.put, List.setIfInBounds_toArray, List.set_cons_zero, List.set_cons_succ]; unfold StepOK; go_simp; exact ⟨Below.refl _ _, isV_mk _ _⟩
        apply RunL.pure
        · intro vs w hb hd; have d3 : isV _ (vs 3) w := hd 3 (by decide) (by kernel_rfl); unfold isV at d3; have d6 : isV _ (vs 6) w := hd 6 (by decide) (by kernel_rfl); unfold isV at d6; clear hd; simp only [List.take, putL, Act.put, List.setIfInBounds_toArray, List.set_cons_zero, List.set_cons_succ]; unfold StepOK; go_simp; exact ⟨Below.refl _ _, isV_mk _ _⟩
        refine RunL.such (isV (.bool true)) (isV_stable _) ?_ ?_
        · intro vs w hb hd; have d7 : isV _ (vs 7) w := hd 7 (by decide) (by kernel_rfl); unfold isV at d7; clear hd; simp only [List.take, putL, Act.put, List.setIfInBounds_toArray, List.set_cons_zero, List.set_cons_succ]; unfold StepOK; go_simp; exact ⟨Below.refl _ _, such_of_bool (awake11_any _)⟩
        apply RunL.pure
        · intro vs w hb hd; have d7 : isV _ (vs 7) w := hd 7 (by decide) (by kernel_rfl); unfold isV at d7; have d8 := hd 8 (by decide) (by kernel_rfl); simp only [TR, Nat.reduceAdd, Nat.reduceSub, List.getD_cons_zero, List.getD_cons_succ] at d8; clear hd; unfold isV at d8; simp only [List.take, putL, Act.put, List.setIfInBounds_toArray, List.set_cons_zero, List.set_cons_succ]; unfold StepOK; go_simp; exact ⟨Below.refl _ _, isV_mk _ _⟩
        apply RunL.pure
        · intro vs w hb hd; have d0 := hd 0 (by decide) (by kernel_rfl); simp only [TR, Nat.reduceAdd, Nat.reduceSub, List.getD_cons_zero, List.getD_cons_succ] at d0; have d1 : isV _ (vs 1) w := hd 1 (by decide) (by kernel_rfl); unfold isV at d1; have d2 := hd 2 (by decide) (by kernel_rfl); simp only [TR, Nat.reduceAdd, Nat.reduceSub, List.getD_cons_zero, List.getD_cons_succ] at d2; have d3 : isV _ (vs 3) w := hd 3 (by decide) (by kernel_rfl); unfold isV at d3; have d4 : isV _ (vs 4) w := hd 4 (by decide) (by kernel_rfl); unfold isV at d4; have d5 : isV _ (vs 5) w := hd 5 (by decide) (by kernel_rfl); unfold isV at d5; have d6 : isV _ (vs 6) w := hd 6 (by decide) (by kernel_rfl); unfold isV at d6; have d7 : isV _ (vs 7) w := hd 7 (by decide) (by kernel_rfl); unfold isV at d7; have d8 := hd 8 (by decide) (by kernel_rfl); simp only [TR, Nat.reduceAdd, Nat.reduceSub, List.getD_cons_zero, List.getD_cons_succ] at d8; have d9 : isV _ (vs 9) w := hd 9 (by decide) (by kernel_rfl); unfold isV at d9; clear hd; simp only [List.take, putL, Act.put, List.setIfInBounds_toArray, List.set_cons_zero, List.set_cons_succ]; unfold StepOK; go_simp; exact ⟨Below.refl _ _, isV_mk _ _⟩
        intro vs w1 hb hd
        have e0 := hd 0 (by decide); simp only [TR, Nat.reduceAdd, Nat.reduceSub, List.getD_cons_zero, List.getD_cons_succ] at e0
        have e1 : isV _ (vs 1) w1 := hd 1 (by decide)
        have e2 := hd 2 (by decide); simp only [TR, Nat.reduceAdd, Nat.reduceSub, List.getD_cons_zero, List.getD_cons_succ] at e2
        have e3 : isV _ (vs 3) w1 := hd 3 (by decide)
        have e4 : isV _ (vs 4) w1 := hd 4 (by decide)
        have e5 : isV _ (vs 5) w1 := hd 5 (by decide)
        have e6 : isV _ (vs 6) w1 := hd 6 (by decide)
        have e7 : isV _ (vs 7) w1 := hd 7 (by decide)
        have e8 := hd 8 (by decide); simp only [TR, Nat.reduceAdd, Nat.reduceSub, List.getD_cons_zero, List.getD_cons_succ] at e8
        have e9 : isV _ (vs 9) w1 := hd 9 (by decide)
        have e10 : isV _ (vs 10) w1 := hd 10 (by decide)
        clear hd
        unfold isV at e1 e3 e4 e5 e6 e7 e9 e10
        simp only [putL, Act.put, List.setIfInBounds_toArray, List.set_cons_zero, List.set_cons_succ, e1, e3, e4, e5, e6, e7, e9, e10]
        clear e1 e3 e4 e5 e6 e7 e9 e10
        --@end
        clear e0 e2 e8 hbe5 hbe6
        have hb9 := hb6.trans (hb.mono hb6.size)
        go_wp2_with fail
        go_ret
        exact ⟨rfl, hb9⟩
end Go.Proofs.Ytphjmbhlokkdiaa
