import Derived.Test.YtcidifmikcnkcaaProg
import Derived.Test.YtcidifmikcnkcaaWords
import Derived.Test.YtcidifmikcnkcaaRegion
import Derived.Deep.MidRow
import Derived.Deep.CutBlock
import Derived.Deep.DeepCutAuto
import Derived.StillTailTactics
import Derived.Laws.OwnMore
import Derived.Lib.BufferMore
import Derived.Laws.BytesArg
import Derived.Lib.MinMax
import Derived.Lib.SlBytesConst
/- What all chapters share. -/
namespace Go.Proofs.Ytcidifmikcnkcaa
open Go.RowKit
set_option linter.unusedSimpArgs false
set_option linter.unusedVariables false

theorem add_plain (g j : Nat) : (⟨g, 0, none⟩ : Addr).add j = ⟨g, j, none⟩ := by unfold Addr.add; split <;> simp_all

def bstr (l : List UInt8) : ByteArray := ⟨l.toArray⟩
theorem bstr_inj {l m : List UInt8} : bstr l = bstr m ↔ l = m := by
  constructor
  · intro h
    have := congrArg (fun b : ByteArray => b.data.toList) h
    simpa [bstr] using this
  · intro h; rw [h]
@[go_sem] theorem bstr_toList (l : List UInt8) : (bstr l).toList = l := by rw [ByteArray.toList_eq]; rfl
theorem strOfNums_bytes (l : List UInt8) : strOfNums (l.map fun b => (b.toNat : Int)) = bstr l := by
  unfold strOfNums bstr
  congr 1
  simp [List.map_map, Function.comp_def]
/-- string(bytes) -/
theorem run_str {w : World} {A : Option Addr} {n c : Nat} {l : List UInt8} (hs : Sl w 1 A n c (bytesV l)) :
    (convert 74 9 (.slice A n c)).run Try.prog w = .ok (.string (bstr l)) w := by
  cases A with
  | none =>
    obtain ⟨rfl, rfl⟩ := hs.none rfl
    have hl : l = [] := List.eq_nil_of_length_eq_zero hs.blen
    subst hl
    exact run_convert_bytes_nil w 74 5 Try.underlying74 Try.underlying5 0 0 9 Try.underlying9
  | some ad =>
    have hl := run_loadCells_list (P := Try.prog) w ad (bytesV l) (fun j v hj => by obtain ⟨a, h1, h2⟩ := hs.cells j v hj; cases h1; exact h2)
    have hlen := hs.blen
    rw [bytesV_length, hlen] at hl
    have hm : bytesV l = (l.map fun b => (b.toNat : Int)).map (Value.int .u8) := by simp [bytesV, byteV, Function.comp_def]
    rw [hm] at hl
    rw [run_convert_bytes_string w 74 9 5 _ n c Try.underlying74 Try.underlying5 Try.underlying9, run_bytesToString w _ n c _ hl, foldl_push_bytes]
    rw [← strOfNums_bytes]
    simp [strOfNums, ByteArray.empty, ByteArray.emptyWithCapacity]
    rfl
/-- bytes that are written out -/
theorem sl_lit (w : World) (l : List UInt8) (e : TypeId) : Sl (w.alloc (.cells (bytesV l).toArray e)) 1 (some ⟨w.heap.size, 0, none⟩) l.length l.length (bytesV l) := by
  refine ⟨fun j u hj => ⟨_, rfl, ?_⟩, by simp [bytesV], Nat.le_refl _, fun h => by cases h⟩
  rw [add_plain, cell_of_row _ w.heap.size j (bytesV l).toArray e (0, 0) (heap_alloc_new w _)]
  simpa using hj
theorem sl_lit_mark (w : World) (l : List UInt8) (e : TypeId) (fr : Nat × Nat) : Sl (w.alloc (.cells (bytesV l).toArray e fr)) 1 (some ⟨w.heap.size, 0, none⟩) l.length l.length (bytesV l) := by
  refine ⟨fun j u hj => ⟨_, rfl, ?_⟩, by simp [bytesV], Nat.le_refl _, fun h => by cases h⟩
  rw [add_plain, cell_of_row _ w.heap.size j (bytesV l).toArray e fr (heap_alloc_new w _)]
  simpa using hj
theorem App.block_lt {base n c : Nat} {e : TypeId} {w : World} {a : Addr} {cs : List Value} (h : App base e 1 w (some a) n c cs) (hn : 0 < n) : a.block < w.heap.size := by
  have hs := h.sl
  obtain ⟨ad, h1, h2⟩ := hs.cells 0 (cs[0]'(by rw [hs.len]; omega)) (List.getElem?_eq_getElem _)
  cases h1
  have := World.block_lt_of_cell? w _ h2
  rwa [add_block] at this
theorem sl_cells (w : World) (cs : List Value) (e : TypeId) : Sl (w.alloc (.cells cs.toArray e)) 1 (some ⟨w.heap.size, 0, none⟩) cs.length cs.length cs := by
  refine ⟨fun j u hj => ⟨_, rfl, ?_⟩, by simp, Nat.le_refl _, fun h => by cases h⟩
  rw [add_plain, cell_of_row _ w.heap.size j cs.toArray e (0, 0) (heap_alloc_new w _)]
  simpa using hj
/-- a row of the call's own, as a slice -/
def Own (base : Nat) (e : TypeId) (size : Nat) (w : World) (A : Option Addr) (n c : Nat) (cs : List Value) : Prop := w.ownsRow base e size (.slice A n c) n cs
section
variable {base size n c : Nat} {e : TypeId} {w : World} {A : Option Addr} {cs : List Value}
theorem Own.app (h : Own base e size w A n c cs) : App base e size w A n c cs := .inl h
theorem Own.sl (h : Own base e size w A n c cs) : Sl w size A n c cs := ownsRow_sl h
theorem Own.below {w' : World} (h : Own base e size w A n c cs) (hb : Below w.heap.size w w') : Own base e size w' A n c cs := by
  refine World.ownsRow.kept h (row := none) ⟨hb.os, hb.tape, hb.output, hb.size, fun i hi _ => hb.block i hi⟩ ?_
  cases A with
  | none => exact .inl rfl
  | some a => exact .inr (by simp [Value.ownBlock])
theorem Own.alloc (h : Own base e size w A n c cs) (o : Obj) : Own base e size (w.alloc o) A n c cs := h.below (below_alloc1 _ _)
end
theorem Own.block_lt {base n c : Nat} {e : TypeId} {w : World} {a : Addr} {cs : List Value} (h : Own base e 1 w (some a) n c cs) (hn : 0 < n) : a.block < w.heap.size := (Own.app h).block_lt hn
theorem new_own (w : World) (cs : List Value) (t : TypeId) (N : Nat) (h : cs.length = N) (hm : N ≤ maxLen) : Own w.heap.size t 1 (w.alloc (.cells cs.toArray t)) (some ⟨w.heap.size, 0, none⟩) N N cs :=
  ⟨by omega, .inr ⟨w.heap.size, N, cs.toArray, rfl, Nat.le_refl _, heap_alloc_new w _, Nat.le_refl _, hm, by simpa using h, by rw [Nat.mul_one, ← h]; simp⟩⟩
theorem results_cell2 {fn : Func} {t u v : Tmp} {ty : TypeId} (h : fn.results = #[.cell t ty, .tmp u, .tmp v]) (tmps : Array Value) (P : Program) (w : World) (a : Addr) (ht : tmps.getD t undef = .pointer (some a)) (x : Value) (hl : (loadVar ty a).run P w = .ok x w) :
    (results fn tmps).run P w = .ok (.tuple #[x, tmps.getD u undef, tmps.getD v undef]) w := by
  simp only [Array.getD_eq_getD_getElem?] at ht
  simp [results, h, ht, asAddr, Sem.run_bind, hl]
theorem Own.apart {base size n c h g : Nat} {e : TypeId} {w w' : World} {cs : List Value} (k : Own base e size w (some ⟨h, 0, none⟩) n c cs) (hg : w.grownBy w' (some g)) (hne : h ≠ g) : Own base e size w' (some ⟨h, 0, none⟩) n c cs :=
  World.ownsRow.kept k hg (.inr (by simpa [Value.ownBlock] using hne))
def Rr (r : Nat) (w w' : World) : Prop := w.grownBy w' (some r)
def namedB (s : List UInt8) : Bool := decide (1 ≤ s.length) && decide (s.length ≤ 40)
theorem ret_bool {a b : Bool} (h : a = true ↔ b = true) : Ending.returned (.bool a) = .returned (.bool b) := by rw [Bool.eq_iff_iff.2 h]
theorem such_of_bool {f : FuncId} {args : Array Value} {w : World} {v : Value} (h : Calls Try.prog f args w fun e w' => e = .returned v ∧ Below w.heap.size w w') :
    Calls Try.prog f args w fun e w' => ∃ u, e = .returned u ∧ Below w.heap.size w w' ∧ isV v u w' :=
  h.mono fun e w' ⟨h1, h2⟩ => ⟨_, h1, h2, isV_mk _ _⟩
theorem Own.keep {base N g size n c : Nat} {e : TypeId} {w w' : World} {cs : List Value} (h : Own base e size w (some ⟨g, 0, none⟩) n c cs) (hb : Below N w w') (hg : g < N) : Own base e size w' (some ⟨g, 0, none⟩) n c cs := by
  refine ⟨h.1, ?_⟩
  rcases h.2 with ⟨h', _⟩ | ⟨g', cap, cur, hv, hb', hg', rest⟩
  · simp at h'
  · simp only [Value.slice.injEq, Option.some.injEq, Addr.mk.injEq, and_true, true_and] at hv
    obtain ⟨rfl, rfl⟩ := hv
    exact .inr ⟨_, _, cur, rfl, hb', (hb.block _ hg).trans hg', rest⟩
/-- what is below B stays as it was -/
def RB (B : Nat) (w w' : World) : Prop := B ≤ w.heap.size → Below B w w'
theorem RB.below {B : Nat} {w w' : World} (h : Below w.heap.size w w') : RB B w w' := fun hB => h.mono hB
theorem RB.trans {B : Nat} {w w1 w2 : World} (h : RB B w w1) (k : RB B w1 w2) : RB B w w2 := fun hB => (h hB).trans (k (Nat.le_trans hB (h hB).size))
theorem RB.grown {B g : Nat} {w w' : World} (h : w.grownBy w' (some g)) (hg : B ≤ g) : RB B w w' := fun hB => (Below.refl _ _).grown h hB (fun k hk => by cases hk; exact hg)
theorem RB.cell {w w' : World} {a : Addr} {u : Value} (h : RB w.heap.size w w') (hc : w.cell? a = some u) : w'.cell? a = some u :=
  (World.cell?_of_block ((h (Nat.le_refl _)).block _ (World.block_lt_of_cell? _ _ hc))).trans hc
theorem Own.lower {base base' size n c : Nat} {e : TypeId} {w : World} {A : Option Addr} {cs : List Value} (h : Own base e size w A n c cs) (hb : base' ≤ base) : Own base' e size w A n c cs := by
  refine ⟨h.1, ?_⟩
  rcases h.2 with h | ⟨g, cap, cur, a, b, r⟩
  · exact .inl h
  · exact .inr ⟨g, cap, cur, a, by omega, r⟩
theorem addr_add_add (a : Addr) (i j : Nat) : (a.add i).add j = a.add (i + j) := by
  unfold Addr.add
  by_cases h1 : i = 0
  · subst h1; simp
  · by_cases h2 : j = 0
    · subst h2; simp
    · have h3 : ¬ (i + j = 0) := by omega
      simp [h1, h2, h3, Nat.add_assoc]
theorem bstr_of (s : ByteArray) : s = bstr s.data.toList := by cases s; rfl
end Go.Proofs.Ytcidifmikcnkcaa
