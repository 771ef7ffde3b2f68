/- Small programs of blocks in memory. Plain facts. -/
import Derived.Test.YtiaimceefkdchaaFoldM
import Derived.Test.YtiaimceefkdchaaPass
namespace Go.Proofs.Ytiaimceefkdchaa
open Go.RowKit
set_option linter.unusedVariables false
theorem slRep_rows {T : Type} {E : Enc T} {w : World} {B g : Nat} {t : TypeId} (l : List T) (f : T → List Value) (hlen : ∀ x, (f x).length = E.size) (hb : w.heap[g]? = some (.cells (l.flatMap f).toArray t (0, 0))) (hB : g < B) (hr : ∀ x ∈ l, E.rep w B (f x) x) : SlRep E w B (.slice (some ⟨g, 0, none⟩) l.length l.length) l := by
  refine ⟨some ⟨g, 0, none⟩, l.length, rfl, Nat.le_refl _, fun k x hk => ⟨g, 0, f x, rfl, hB, hr x (List.mem_of_getElem? hk), fun j u hu => ?_⟩⟩
  have := (cell_of_blk hb (k * E.size + j)).1
  rw [Nat.zero_add, this, List.getElem?_toArray, List.flatMap_def]
  exact flatten_at E.size (l.map f) (fun es he => by obtain ⟨y, _, rfl⟩ := List.mem_map.1 he; exact hlen y) k (f x) (by rw [List.getElem?_map, hk]; rfl) j u hu
/-- An operation, read off a list that has it. -/
theorem op_known {w : World} {B : Nat} {A : Option Addr} {c : Nat} {l : List Opn} (h : SlRep opEnc w B (.slice A l.length c) l) (k : Nat) (o : Opn) (ho : l[k]? = some o) :
    ∃ b off, A = some ⟨b, off, none⟩ ∧ b < B ∧ w.cell? ⟨b, off + k * 6, none⟩ = some (.int .i64 o.kind) ∧ w.cell? ⟨b, off + k * 6 + 1, none⟩ = some (.int .i64 o.dst) ∧ w.cell? ⟨b, off + k * 6 + 2, none⟩ = some (.int .i64 o.a) ∧ w.cell? ⟨b, off + k * 6 + 3, none⟩ = some (.int .i64 o.b) ∧ w.cell? ⟨b, off + k * 6 + 4, none⟩ = some (.int .i64 o.c) ∧ w.cell? ⟨b, off + k * 6 + 5, none⟩ = some (.int .i64 o.imm) := by
  have hk : k < l.length := (List.getElem?_eq_some_iff.1 ho).1
  obtain ⟨b, off, h1, h2, h3⟩ := op_at h k hk
  have e : l.getD k opNone = o := by rw [List.getD_eq_getElem?_getD, ho]; rfl
  rw [e] at h3
  exact ⟨b, off, h1, h2, h3⟩
theorem blk_known {w : World} {B : Nat} {A : Option Addr} {c : Nat} {l : List Blk} (h : SlRep blkEnc w B (.slice A l.length c) l) (k : Nat) (b' : Blk) (hb : l[k]? = some b') :
    ∃ b off, A = some ⟨b, off, none⟩ ∧ b < B ∧ ∃ OA oc, SlRep opEnc w B (.slice OA b'.ops.length oc) b'.ops ∧ b'.ops.length ≤ oc ∧ w.cell? ⟨b, off + k * 5, none⟩ = some (.slice OA b'.ops.length oc) ∧ w.cell? ⟨b, off + k * 5 + 1, none⟩ = some (.int .i64 b'.term.kind) ∧
      w.cell? ⟨b, off + k * 5 + 2, none⟩ = some (.int .i64 b'.term.a) ∧ w.cell? ⟨b, off + k * 5 + 3, none⟩ = some (.int .i64 b'.term.yes) ∧ w.cell? ⟨b, off + k * 5 + 4, none⟩ = some (.int .i64 b'.term.no) := by
  have hk : k < l.length := (List.getElem?_eq_some_iff.1 hb).1
  have h3 := blk_at h k hk
  have e : l.getD k blkNone = b' := by rw [List.getD_eq_getElem?_getD, hb]; rfl
  rw [e] at h3
  exact h3
/-- A program of one block, laid cell by cell. -/
theorem live_one (w : World) (L : List Opn) (t : Trm) (T : Int) :
    IrRep (((w.alloc (.cells (L.flatMap opCells).toArray 58)).alloc (.cells #[.slice (some ⟨w.heap.size, 0, none⟩) L.length L.length, .int .i64 t.kind, .int .i64 t.a, .int .i64 t.yes, .int .i64 t.no] 55)).alloc (.cells #[.int .i64 T, .slice none 0 0, .slice (some ⟨w.heap.size + 1, 0, none⟩) 1 1, .int .i64 0, .int .i64 0] 25))
      (((w.alloc (.cells (L.flatMap opCells).toArray 58)).alloc (.cells #[.slice (some ⟨w.heap.size, 0, none⟩) L.length L.length, .int .i64 t.kind, .int .i64 t.a, .int .i64 t.yes, .int .i64 t.no] 55)).alloc (.cells #[.int .i64 T, .slice none 0 0, .slice (some ⟨w.heap.size + 1, 0, none⟩) 1 1, .int .i64 0, .int .i64 0] 25)).heap.size
      ⟨T, [], [⟨L, t⟩], 0, 0⟩ (.slice none 0 0) (.slice (some ⟨w.heap.size + 1, 0, none⟩) 1 1) := by
  have h1 := alloc_size w (.cells (L.flatMap opCells).toArray 58) rfl
  refine ⟨SlRep.nil_ _ _, ?_⟩
  have hA := alloc_old (alloc_old (alloc_last w _ rfl (.cells (L.flatMap opCells).toArray 58)) (.cells #[.slice (some ⟨w.heap.size, 0, none⟩) L.length L.length, .int .i64 t.kind, .int .i64 t.a, .int .i64 t.yes, .int .i64 t.no] 55)) (.cells #[.int .i64 T, .slice none 0 0, .slice (some ⟨w.heap.size + 1, 0, none⟩) 1 1, .int .i64 0, .int .i64 0] 25)
  have hB := alloc_old (alloc_last _ _ h1 (.cells #[.slice (some ⟨w.heap.size, 0, none⟩) L.length L.length, .int .i64 t.kind, .int .i64 t.a, .int .i64 t.yes, .int .i64 t.no] 55)) (.cells #[.int .i64 T, .slice none 0 0, .slice (some ⟨w.heap.size + 1, 0, none⟩) 1 1, .int .i64 0, .int .i64 0] 25)
  exact slRep_one (E := blkEnc) (es := .slice (some ⟨w.heap.size, 0, none⟩) L.length L.length :: trmCells t) hB (lt_of_blk hB) ⟨_, rfl, slRep_rows (E := opEnc) L opCells (fun _ => rfl) hA (lt_of_blk hA) (fun _ _ => rfl)⟩
end Go.Proofs.Ytiaimceefkdchaa
