import Derived.Test.YtphjmbhlokkdiaaByteWalksE
import Derived.Test.YtphjmbhlokkdiaaRegion
import Derived.Laws.BytesArg
import Derived.Lib.SlBytesConst
namespace Go.Proofs.Ytphjmbhlokkdiaa
open Go.RowKit
set_option linter.unusedSimpArgs false
set_option linter.unusedVariables false

def bstr (l : List UInt8) : ByteArray := ⟨l.toArray⟩
theorem bstr_inj {l m : List UInt8} : bstr l = bstr m ↔ l = m := by
  constructor
  · intro h
    have := congrArg (fun b : ByteArray => b.data.toList) h
    simpa [bstr] using this
  · intro h; rw [h]
@[go_sem] theorem bstr_toList (l : List UInt8) : (bstr l).toList = l := by rw [ByteArray.toList_eq]; rfl
theorem strOfNums_bytes (l : List UInt8) : strOfNums (l.map fun b => (b.toNat : Int)) = bstr l := by
  unfold strOfNums bstr
  congr 1
  simp [List.map_map, Function.comp_def]

/-- string(bytes) -/
theorem run_str {w : World} {A : Option Addr} {n c : Nat} {l : List UInt8} (hs : Sl w 1 A n c (bytesV l)) :
    (convert 27 9 (.slice A n c)).run Try.prog w = .ok (.string (bstr l)) w := by
  cases A with
  | none =>
    obtain ⟨rfl, rfl⟩ := hs.none rfl
    have hl : l = [] := List.eq_nil_of_length_eq_zero hs.blen
    subst hl
    exact run_convert_bytes_nil w 27 5 Try.underlying27 Try.underlying5 0 0 9 Try.underlying9
  | some ad =>
    have hl := run_loadCells_list (P := Try.prog) w ad (bytesV l) (fun j v hj => by obtain ⟨a, h1, h2⟩ := hs.cells j v hj; cases h1; exact h2)
    have hlen := hs.blen
    rw [bytesV_length, hlen] at hl
    have hm : bytesV l = (l.map fun b => (b.toNat : Int)).map (Value.int .u8) := by simp [bytesV, byteV, Function.comp_def]
    rw [hm] at hl
    rw [run_convert_bytes_string w 27 9 5 _ n c Try.underlying27 Try.underlying5 Try.underlying9, run_bytesToString w _ n c _ hl, foldl_push_bytes]
    rw [← strOfNums_bytes]
    simp [strOfNums, ByteArray.empty, ByteArray.emptyWithCapacity]
    rfl

theorem uint_nil (n : Nat) (N : Int) (w : World) (hn : n < 18446744073709551616) (hN : N = (n : Int)) :
    Calls Try.prog 56 #[.slice none 0 0, .int .u64 N] w fun e w' => ∃ v, e = .returned v ∧ Below w.heap.size w w' ∧ isB (uv n) v w' :=
  (uint_at _ _ _ _ [] n N _ (App.nil w.heap.size _ _ _) (Nat.le_refl _) hn (by omega) hN).mono fun e w1 ⟨A1, n1, c1, he, hto⟩ =>
    ⟨_, he, hto.below (Nat.le_refl _), A1, n1, c1, rfl, by simpa using hto.app.sl⟩
theorem int_nil (i : Int) (w : World) (h1 : -9223372036854775808 ≤ i) (h2 : i ≤ 9223372036854775807) :
    Calls Try.prog 57 #[.slice none 0 0, .int .i64 i] w fun e w' => ∃ v, e = .returned v ∧ Below w.heap.size w w' ∧ isB (uv (zz i)) v w' :=
  (int_any w.heap.size _ _ _ [] i _ (App.nil _ _ _ _) (Nat.le_refl _) h1 h2 (by omega)).mono fun e w1 ⟨A1, n1, c1, he, hto⟩ =>
    ⟨_, he, hto.below (Nat.le_refl _), A1, n1, c1, rfl, by simpa using hto.app.sl⟩

/-- bytes that are written out -/
theorem sl_lit (w : World) (l : List UInt8) (e : TypeId) : Sl (w.alloc (.cells (bytesV l).toArray e)) 1 (some ⟨w.heap.size, 0, none⟩) l.length l.length (bytesV l) := by
  refine ⟨fun j u hj => ⟨_, rfl, ?_⟩, by simp [bytesV], Nat.le_refl _, fun h => by cases h⟩
  rw [add_plain, cell_of_row _ w.heap.size j (bytesV l).toArray e (0, 0) (heap_alloc_new w _)]
  simpa using hj
theorem sl_lit_mark (w : World) (l : List UInt8) (e : TypeId) (fr : Nat × Nat) : Sl (w.alloc (.cells (bytesV l).toArray e fr)) 1 (some ⟨w.heap.size, 0, none⟩) l.length l.length (bytesV l) := by
  refine ⟨fun j u hj => ⟨_, rfl, ?_⟩, by simp [bytesV], Nat.le_refl _, fun h => by cases h⟩
  rw [add_plain, cell_of_row _ w.heap.size j (bytesV l).toArray e fr (heap_alloc_new w _)]
  simpa using hj
theorem uv_0 : uv 0 = [0] := by rw [uv_small 0 (by omega)]; rfl
theorem uv_127 : uv 127 = [127] := by rw [uv_small 127 (by omega)]; rfl
theorem uv_128 : uv 128 = [128, 1] := by rw [uv_big 128 (by omega), uv_small (128 / 128) (by omega)]; rfl
theorem uv_300 : uv 300 = [172, 2] := by rw [uv_big 300 (by omega), uv_small (300 / 128) (by omega)]; rfl
theorem uv_1 : uv 1 = [1] := by rw [uv_small 1 (by omega)]; rfl
theorem uv_2 : uv 2 = [2] := by rw [uv_small 2 (by omega)]; rfl

theorem uv_m1 : uv (zz (-1)) = [1] := by rw [show zz (-1) = 1 by decide]; exact uv_1
theorem uv_p1 : uv (zz 1) = [2] := by rw [show zz 1 = 2 by decide]; exact uv_2
theorem uv_m64 : uv (zz (-64)) = [127] := by rw [show zz (-64) = 127 by decide]; exact uv_127
theorem blob_nil (B : Option Addr) (m d : Nat) (b : List UInt8) (w : World) (hs : Sl w 1 B m d (bytesV b)) (hm : m ≤ 70368744175616) :
    Calls Try.prog 58 #[.slice none 0 0, .slice B m d] w fun e w' => ∃ v, e = .returned v ∧ Below w.heap.size w w' ∧ isB (uv b.length ++ b) v w' :=
  (blob_any w.heap.size none B 0 0 m d [] b w (App.nil _ _ _ _) (Nat.le_refl _) hs (fun ad _ => by simp [rowOf]) (by omega) hm).mono fun e w1 ⟨A1, n1, c1, he, hto⟩ =>
    ⟨_, he, hto.below (Nat.le_refl _), A1, n1, c1, rfl, by simpa using hto.app.sl⟩

end Go.Proofs.Ytphjmbhlokkdiaa
