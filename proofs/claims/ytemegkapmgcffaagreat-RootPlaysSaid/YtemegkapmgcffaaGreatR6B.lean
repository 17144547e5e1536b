import Derived.Test.YtemegkapmgcffaaGreatR2D
import Derived.Test.YtemegkapmgcffaaGreatRefRt
/- The document's Write of a root: what stands in its boxes. -/
namespace Go.Proofs.YtemegkapmgcffaaGreat
open Go.RowKit
set_option linter.unusedSimpArgs false
set_option linter.unusedVariables false

theorem results_cell22 {fn : Func} {t u v : Tmp} {ty tz : TypeId} (h : fn.results = #[.cell t ty, .cell u tz, .tmp v]) (tmps : Array Value) (P : Program) (w : World) (a a2 : Addr) (ht : tmps.getD t undef = .pointer (some a)) (hu : tmps.getD u undef = .pointer (some a2)) (x y : Value) (hl : (loadVar ty a).run P w = .ok x w) (hm : (loadVar tz a2).run P w = .ok y w) :
    (results fn tmps).run P w = .ok (.tuple #[x, y, tmps.getD v undef]) w := by
  simp only [Array.getD_eq_getD_getElem?] at ht hu
  simp [results, h, ht, hu, asAddr, Sem.run_bind, hl, hm]
def zd6 : List Value := [.int .i64 0, .slice none 0 0, .int .i64 0, .bool false]
def zr6 : List Value := [.int .i64 0, .int .i64 0, .slice none 0 0]
def set4 (w : World) (q : Nat) (v0 v1 v2 v3 : Value) : World := (((w.setCell ⟨q, 0, none⟩ v0).setCell ⟨q, 1, none⟩ v1).setCell ⟨q, 2, none⟩ v2).setCell ⟨q, 3, none⟩ v3
def set3 (w : World) (q : Nat) (v0 v1 v2 : Value) : World := ((w.setCell ⟨q, 0, none⟩ v0).setCell ⟨q, 1, none⟩ v1).setCell ⟨q, 2, none⟩ v2
theorem sl_box {w w' : World} {base q N : Nat} {t : TypeId} {cs : List Value} (h : Own base t 1 w (some ⟨q, 0, none⟩) N N cs) (hz : ∀ y : UInt8, byteV y ∉ cs) (hg : w.grownBy w' (some q)) {A : Option Addr} {n c : Nat} {x : List UInt8} (hs : Sl w 1 A n c (bytesV x)) : Sl w' 1 A n c (bytesV x) :=
  sl_keptV (held_of_own h) hs (fun v hv => by
    obtain ⟨y, rfl⟩ := byte_not hv
    exact hz y) hg
theorem R2.keptB {G : Nat → Prop} {w w' : World} {base q N : Nat} {t : TypeId} {cs : List Value} {A : Option Addr} {n c : Nat} {es : List FE} (h : Own base t 1 w (some ⟨q, 0, none⟩) N N cs) (hz : ∀ y : UInt8, byteV y ∉ cs) (hz2 : ∀ s : ByteArray, Value.string s ∉ cs) (hr : R2 G w A n c es) (hg : w.grownBy w' (some q)) : R2 G w' A n c es :=
  ⟨sl_keptV (held_of_own h) hr.sl (fun v hv => by
    cases es with
    | nil => cases hv
    | cons e r =>
      have : v = .string (bstr e.f.nm) := by simpa [flatFE, feC] using hv.symm
      subst this
      exact hz2 _) hg, fun hne a ha => ⟨Nat.lt_of_lt_of_le (hr.lies hne a ha).1 hg.size, (hr.lies hne a ha).2⟩, fun e he => ⟨sl_box h hz hg (hr.ok e he).1, fun hne a ha => ⟨Nat.lt_of_lt_of_le ((hr.ok e he).2 hne a ha).1 hg.size, ((hr.ok e he).2 hne a ha).2⟩⟩⟩
structure W6 (G : Nat → Prop) (w0 w : World) (D : Dk) (A : Option Addr) (n c : Nat) (es : List FE) (s b : Int) (XA : Option Addr) (xn xc : Nat) (x : List UInt8) : Prop where
  bd : Own w0.heap.size 30 1 w (some ⟨w0.heap.size, 0, none⟩) 4 4 [.int .i64 D.room, .slice A n c, .int .i64 D.fuse, .bool D.dark]
  br : Own w0.heap.size 36 1 w (some ⟨w0.heap.size + 1, 0, none⟩) 3 3 [.int .i64 s, .int .i64 b, .slice XA xn xc]
  rd : Own w0.heap.size 30 1 w (some ⟨w0.heap.size + 2, 0, none⟩) 4 4 zd6
  rr : Own w0.heap.size 36 1 w (some ⟨w0.heap.size + 3, 0, none⟩) 3 3 zr6
  r2 : R2 G w A n c es
  eq : es.map FE.f = D.fs
  sx : Sl w 1 XA xn xc (bytesV x)
  bel : Below w0.heap.size w0 w
section
variable {G : Nat → Prop} {w0 w : World} {D : Dk} {A : Option Addr} {n c : Nat} {es : List FE} {s b : Int} {XA : Option Addr} {xn xc : Nat} {x : List UInt8}
theorem W6.below {w' : World} (h : W6 G w0 w D A n c es s b XA xn xc x) (hb : Below w.heap.size w w') : W6 G w0 w' D A n c es s b XA xn xc x :=
  ⟨Own.below h.bd hb, Own.below h.br hb, Own.below h.rd hb, Own.below h.rr hb, h.r2.below hb, h.eq, h.sx.below hb, h.bel.trans (hb.mono h.bel.size)⟩
theorem nb4 (a e : Int) (B : Option Addr) (m d : Nat) (z : Bool) (y : UInt8) : byteV y ∉ [Value.int .i64 a, .slice B m d, .int .i64 e, .bool z] := by simp [byteV]
theorem nb3 (a e : Int) (B : Option Addr) (m d : Nat) (y : UInt8) : byteV y ∉ [Value.int .i64 a, .int .i64 e, .slice B m d] := by simp [byteV]
theorem ns4 (a e : Int) (B : Option Addr) (m d : Nat) (z : Bool) (t : ByteArray) : Value.string t ∉ [Value.int .i64 a, .slice B m d, .int .i64 e, .bool z] := by simp
theorem ns3 (a e : Int) (B : Option Addr) (m d : Nat) (t : ByteArray) : Value.string t ∉ [Value.int .i64 a, .int .i64 e, .slice B m d] := by simp
/-- the disk is stored into its box -/
theorem W6.put (h : W6 G w0 w D A n c es s b XA xn xc x) {D2 : Dk} {A2 : Option Addr} {n2 c2 : Nat} {es2 : List FE} (r2 : R2 G w A2 n2 c2 es2) (eq : es2.map FE.f = D2.fs) :
    W6 G w0 (set4 w w0.heap.size (.int .i64 D2.room) (.slice A2 n2 c2) (.int .i64 D2.fuse) (.bool D2.dark)) D2 A2 n2 c2 es2 s b XA xn xc x ∧
    ∀ {B : Option Addr} {m d : Nat} {y : List UInt8}, Sl w 1 B m d (bytesV y) → Sl (set4 w w0.heap.size (.int .i64 D2.room) (.slice A2 n2 c2) (.int .i64 D2.fuse) (.bool D2.dark)) 1 B m d (bytesV y) := by
  have st := stored4R h.bd (.int .i64 D2.room) (.slice A2 n2 c2) (.int .i64 D2.fuse) (.bool D2.dark)
  exact ⟨⟨st.1, h.br.apart st.2 (by omega), h.rd.apart st.2 (by omega), h.rr.apart st.2 (by omega), R2.keptB h.bd (nb4 _ _ _ _ _ _) (ns4 _ _ _ _ _ _) r2 st.2, eq, sl_box h.bd (nb4 _ _ _ _ _ _) st.2 h.sx, h.bel.grown st.2 h.bel.size (fun q hq => by cases hq; exact Nat.le_refl _)⟩, fun hs => sl_box h.bd (nb4 _ _ _ _ _ _) st.2 hs⟩
theorem W6.serial (h : W6 G w0 w D A n c es s b XA xn xc x) (s2 : Int) : W6 G w0 (w.setCell ⟨w0.heap.size + 1, 0, none⟩ (.int .i64 s2)) D A n c es s2 b XA xn xc x := by
  have st := World.ownsRow.stored h.br 0 (.int .i64 s2)
  exact ⟨h.bd.apart st.2 (by omega), st.1, h.rd.apart st.2 (by omega), h.rr.apart st.2 (by omega), R2.keptB h.br (nb3 _ _ _ _ _) (ns3 _ _ _ _ _) h.r2 st.2, h.eq, sl_box h.br (nb3 _ _ _ _ _) st.2 h.sx, h.bel.grown st.2 h.bel.size (fun q hq => by cases hq; omega)⟩
def W6Out (G : Nat → Prop) (w0 w : World) (D : Dk) (A : Option Addr) (n c : Nat) (es : List FE) (s2 b2 : Int) (B : Option Addr) (m d : Nat) (w2 : World) : Prop :=
  Own w0.heap.size 30 1 w2 (some ⟨w0.heap.size + 2, 0, none⟩) 4 4 [.int .i64 D.room, .slice A n c, .int .i64 D.fuse, .bool D.dark] ∧
  Own w0.heap.size 36 1 w2 (some ⟨w0.heap.size + 3, 0, none⟩) 3 3 [.int .i64 s2, .int .i64 b2, .slice B m d] ∧ R2 G w2 A n c es ∧
  (∀ {B : Option Addr} {m d : Nat} {y : List UInt8}, Sl w 1 B m d (bytesV y) → Sl w2 1 B m d (bytesV y)) ∧ Below w0.heap.size w0 w2
theorem W6.out (h : W6 G w0 w D A n c es s b XA xn xc x) (s2 b2 : Int) (B : Option Addr) (m d : Nat) :
    Own w0.heap.size 36 1 (set4 w (w0.heap.size + 2) (.int .i64 D.room) (.slice A n c) (.int .i64 D.fuse) (.bool D.dark)) (some ⟨w0.heap.size + 3, 0, none⟩) 3 3 zr6 ∧
    W6Out G w0 w D A n c es s2 b2 B m d (set3 (set4 w (w0.heap.size + 2) (.int .i64 D.room) (.slice A n c) (.int .i64 D.fuse) (.bool D.dark)) (w0.heap.size + 3) (.int .i64 s2) (.int .i64 b2) (.slice B m d)) := by
  have st := stored4R h.rd (.int .i64 D.room) (.slice A n c) (.int .i64 D.fuse) (.bool D.dark)
  have hr := h.rr.apart st.2 (by omega)
  have st3 := stored3R hr (.int .i64 s2) (.int .i64 b2) (.slice B m d)
  refine ⟨hr, st.1.apart st3.2 (by omega), st3.1, R2.keptB hr (nb3 _ _ _ _ _) (ns3 _ _ _ _ _) (R2.keptB h.rd (nb4 _ _ _ _ _ _) (ns4 _ _ _ _ _ _) h.r2 st.2) st3.2, fun hs => sl_box hr (nb3 _ _ _ _ _) st3.2 (sl_box h.rd (nb4 _ _ _ _ _ _) st.2 hs), ?_⟩
  have hb := h.bel.grown st.2 h.bel.size (fun q hq => by cases hq; omega)
  exact hb.grown st3.2 hb.size (fun q hq => by cases hq; omega)
theorem W6.out2 (h : W6 G w0 w D A n c es s b XA xn xc x) (s2 b2 : Int) (B : Option Addr) (m d : Nat) :
    Own w0.heap.size 30 1 (set3 w (w0.heap.size + 3) (.int .i64 s2) (.int .i64 b2) (.slice B m d)) (some ⟨w0.heap.size + 2, 0, none⟩) 4 4 zd6 ∧
    W6Out G w0 w D A n c es s2 b2 B m d (set4 (set3 w (w0.heap.size + 3) (.int .i64 s2) (.int .i64 b2) (.slice B m d)) (w0.heap.size + 2) (.int .i64 D.room) (.slice A n c) (.int .i64 D.fuse) (.bool D.dark)) := by
  have st3 := stored3R h.rr (.int .i64 s2) (.int .i64 b2) (.slice B m d)
  have hr := h.rd.apart st3.2 (by omega)
  have st := stored4R hr (.int .i64 D.room) (.slice A n c) (.int .i64 D.fuse) (.bool D.dark)
  refine ⟨hr, st.1, st3.1.apart st.2 (by omega), R2.keptB hr (nb4 _ _ _ _ _ _) (ns4 _ _ _ _ _ _) (R2.keptB h.rr (nb3 _ _ _ _ _) (ns3 _ _ _ _ _) h.r2 st3.2) st.2, fun hs => sl_box hr (nb4 _ _ _ _ _ _) st.2 (sl_box h.rr (nb3 _ _ _ _ _) st3.2 hs), ?_⟩
  have hb := h.bel.grown st3.2 h.bel.size (fun q hq => by cases hq; omega)
  exact hb.grown st.2 hb.size (fun q hq => by cases hq; omega)
theorem W6.cd (h : W6 G w0 w D A n c es s b XA xn xc x) : w.cell? ⟨w0.heap.size, 0, none⟩ = some (.int .i64 D.room) ∧ w.cell? ⟨w0.heap.size, 1, none⟩ = some (.slice A n c) ∧ w.cell? ⟨w0.heap.size, 2, none⟩ = some (.int .i64 D.fuse) ∧ w.cell? ⟨w0.heap.size, 3, none⟩ = some (.bool D.dark) := by
  have m0 := World.ownsRow.cellAt h.bd 0 (by omega)
  have m1 := World.ownsRow.cellAt h.bd 1 (by omega)
  have m2 := World.ownsRow.cellAt h.bd 2 (by omega)
  have m3 := World.ownsRow.cellAt h.bd 3 (by omega)
  simp only [List.getElem?_cons_zero, List.getElem?_cons_succ] at m0 m1 m2 m3
  exact ⟨m0, m1, m2, m3⟩
theorem W6.cr (h : W6 G w0 w D A n c es s b XA xn xc x) : w.cell? ⟨w0.heap.size + 1, 0, none⟩ = some (.int .i64 s) ∧ w.cell? ⟨w0.heap.size + 1, 1, none⟩ = some (.int .i64 b) ∧ w.cell? ⟨w0.heap.size + 1, 2, none⟩ = some (.slice XA xn xc) := by
  have m0 := World.ownsRow.cellAt h.br 0 (by omega)
  have m1 := World.ownsRow.cellAt h.br 1 (by omega)
  have m2 := World.ownsRow.cellAt h.br 2 (by omega)
  simp only [List.getElem?_cons_zero, List.getElem?_cons_succ] at m0 m1 m2
  exact ⟨m0, m1, m2⟩
theorem cells4 {base q : Nat} {t : TypeId} {v0 v1 v2 v3 : Value} (h : Own base t 1 w (some ⟨q, 0, none⟩) 4 4 [v0, v1, v2, v3]) : w.cell? ⟨q, 0, none⟩ = some v0 ∧ w.cell? ⟨q, 1, none⟩ = some v1 ∧ w.cell? ⟨q, 2, none⟩ = some v2 ∧ w.cell? ⟨q, 3, none⟩ = some v3 := by
  have m0 := World.ownsRow.cellAt h 0 (by omega)
  have m1 := World.ownsRow.cellAt h 1 (by omega)
  have m2 := World.ownsRow.cellAt h 2 (by omega)
  have m3 := World.ownsRow.cellAt h 3 (by omega)
  simp only [List.getElem?_cons_zero, List.getElem?_cons_succ] at m0 m1 m2 m3
  exact ⟨m0, m1, m2, m3⟩
theorem cells3 {base q : Nat} {t : TypeId} {v0 v1 v2 : Value} (h : Own base t 1 w (some ⟨q, 0, none⟩) 3 3 [v0, v1, v2]) : w.cell? ⟨q, 0, none⟩ = some v0 ∧ w.cell? ⟨q, 1, none⟩ = some v1 ∧ w.cell? ⟨q, 2, none⟩ = some v2 := by
  have m0 := World.ownsRow.cellAt h 0 (by omega)
  have m1 := World.ownsRow.cellAt h 1 (by omega)
  have m2 := World.ownsRow.cellAt h 2 (by omega)
  simp only [List.getElem?_cons_zero, List.getElem?_cons_succ] at m0 m1 m2
  exact ⟨m0, m1, m2⟩
end
end Go.Proofs.YtemegkapmgcffaaGreat
