import Derived.Test.YtphjmbhlokkdiaaFrameA
namespace Go.Proofs.Ytphjmbhlokkdiaa
open Go.RowKit
set_option linter.unusedSimpArgs false
set_option linter.unusedVariables false

/-- a part that is put behind -/
structure Part where
  A : Option Addr
  n : Nat
  c : Nat
  l : List UInt8
def Part.v (q : Part) : Value := .slice q.A q.n q.c

theorem App.block_lt {base n c : Nat} {e : TypeId} {w : World} {a : Addr} {cs : List Value} (h : App base e 1 w (some a) n c cs) (hn : 0 < n) : a.block < w.heap.size := by
  have hs := h.sl
  obtain ⟨ad, h1, h2⟩ := hs.cells 0 (cs[0]'(by rw [hs.len]; omega)) (List.getElem?_eq_getElem _)
  cases h1
  have := World.block_lt_of_cell? w _ h2
  rwa [add_block] at this
theorem Sl.block_lt {n c : Nat} {w : World} {a : Addr} {cs : List Value} (hs : Sl w 1 (some a) n c cs) (hn : 0 < n) : a.block < w.heap.size := by
  obtain ⟨ad, h1, h2⟩ := hs.cells 0 (cs[0]'(by rw [hs.len]; omega)) (List.getElem?_eq_getElem _)
  cases h1
  have := World.block_lt_of_cell? w _ h2
  rwa [add_block] at this
theorem sl_cells (w : World) (cs : List Value) (e : TypeId) : Sl (w.alloc (.cells cs.toArray e)) 1 (some ⟨w.heap.size, 0, none⟩) cs.length cs.length cs := by
  refine ⟨fun j u hj => ⟨_, rfl, ?_⟩, by simp, Nat.le_refl _, fun h => by cases h⟩
  rw [add_plain, cell_of_row _ w.heap.size j cs.toArray e (0, 0) (heap_alloc_new w _)]
  simpa using hj

theorem crc4_length' (r : BitVec 32) : (crc4 r).length = 4 := rfl
/-- a body's frame -/
def frm (b : List UInt8) : List UInt8 := uv b.length ++ (b ++ (crc4 (crc b) ++ [165]))

end Go.Proofs.Ytphjmbhlokkdiaa
