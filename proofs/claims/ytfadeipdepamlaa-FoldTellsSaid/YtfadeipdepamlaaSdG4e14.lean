/- Parts of a proof, joined. No condition but those that each theorem names. -/
import Derived.WalkKit
import Derived.OpenShut
import Derived.Below
import Derived.Lib.Hide
import Derived.Laws.OwnMore
import Derived.Deep.QuietTactic
import Derived.Deep.AppendLies
import Derived.ProofKit
import Derived.SizedLaws
import Derived.Test.YtfadeipdepamlaaProg
import Derived.Handy
import Derived.Deep.RegionHeld3
import Derived.BigQuiet
import Derived.Maps.AppendAt
import Derived.Maps.RangeWalk
import Derived.Maps.OwnSet
import Derived.StillTailTactics
import Derived.Laws.CopyOwn
import Derived.Lib.BufferWrite
import Derived.OrdersHeld
import Derived.RegionTactic
import Derived.Test.YtfadeipdepamlaaSdG0e0
import Derived.Test.YtfadeipdepamlaaSdIr
import Derived.Test.YtfadeipdepamlaaSdG1e2
import Derived.Test.YtfadeipdepamlaaSdG2e5
import Derived.Test.YtfadeipdepamlaaSdG1e5
import Derived.Test.YtfadeipdepamlaaSdG0e11
import Derived.Test.YtfadeipdepamlaaSdG3e14
import Derived.Test.YtfadeipdepamlaaSdFoldM
namespace Go.Proofs.Ytfadeipdepamlaa
open Go.RowKit
set_option linter.unusedVariables false
theorem slRep_rows {T : Type} {E : Enc T} {w : World} {B g : Nat} {t : TypeId} (l : List T) (f : T → List Value) (hlen : ∀ x, (f x).length = E.size) (hb : w.heap[g]? = some (.cells (l.flatMap f).toArray t (0, 0))) (hB : g < B) (hr : ∀ x ∈ l, E.rep w B (f x) x) : SlRep E w B (.slice (some ⟨g, 0, none⟩) l.length l.length) l := by
  refine ⟨some ⟨g, 0, none⟩, l.length, rfl, Nat.le_refl _, fun k x hk => ⟨g, 0, f x, rfl, hB, hr x (List.mem_of_getElem? hk), fun j u hu => ?_⟩⟩
  have := (cell_of_blk hb (k * E.size + j)).1
  rw [Nat.zero_add, this, List.getElem?_toArray, List.flatMap_def]
  exact flatten_at E.size (l.map f) (fun es he => by obtain ⟨y, _, rfl⟩ := List.mem_map.1 he; exact hlen y) k (f x) (by rw [List.getElem?_map, hk]; rfl) j u hu
/-- An operation, read off a list that has it. -/
theorem op_known {w : World} {B : Nat} {A : Option Addr} {c : Nat} {l : List Opn} (h : SlRep opEnc w B (.slice A l.length c) l) (k : Nat) (o : Opn) (ho : l[k]? = some o) :
    ∃ b off, A = some ⟨b, off, none⟩ ∧ b < B ∧ w.cell? ⟨b, off + k * 6, none⟩ = some (.int .i64 o.kind) ∧ w.cell? ⟨b, off + k * 6 + 1, none⟩ = some (.int .i64 o.dst) ∧ w.cell? ⟨b, off + k * 6 + 2, none⟩ = some (.int .i64 o.a) ∧ w.cell? ⟨b, off + k * 6 + 3, none⟩ = some (.int .i64 o.b) ∧ w.cell? ⟨b, off + k * 6 + 4, none⟩ = some (.int .i64 o.c) ∧ w.cell? ⟨b, off + k * 6 + 5, none⟩ = some (.int .i64 o.imm) := by
  have hk : k < l.length := (List.getElem?_eq_some_iff.1 ho).1
  obtain ⟨b, off, h1, h2, h3⟩ := op_at h k hk
  have e : l.getD k opNone = o := by rw [List.getD_eq_getElem?_getD, ho]; rfl
  rw [e] at h3
  exact ⟨b, off, h1, h2, h3⟩
theorem blk_known {w : World} {B : Nat} {A : Option Addr} {c : Nat} {l : List Blk} (h : SlRep blkEnc w B (.slice A l.length c) l) (k : Nat) (b' : Blk) (hb : l[k]? = some b') :
    ∃ b off, A = some ⟨b, off, none⟩ ∧ b < B ∧ ∃ OA oc, SlRep opEnc w B (.slice OA b'.ops.length oc) b'.ops ∧ b'.ops.length ≤ oc ∧ w.cell? ⟨b, off + k * 5, none⟩ = some (.slice OA b'.ops.length oc) ∧ w.cell? ⟨b, off + k * 5 + 1, none⟩ = some (.int .i64 b'.term.kind) ∧
      w.cell? ⟨b, off + k * 5 + 2, none⟩ = some (.int .i64 b'.term.a) ∧ w.cell? ⟨b, off + k * 5 + 3, none⟩ = some (.int .i64 b'.term.yes) ∧ w.cell? ⟨b, off + k * 5 + 4, none⟩ = some (.int .i64 b'.term.no) := by
  have hk : k < l.length := (List.getElem?_eq_some_iff.1 hb).1
  have h3 := blk_at h k hk
  have e : l.getD k blkNone = b' := by rw [List.getD_eq_getElem?_getD, hb]; rfl
  rw [e] at h3
  exact h3
/-- A program of one block, laid cell by cell. -/
theorem live_one (w : World) (L : List Opn) (t : Trm) (T : Int) :
    IrRep (((w.alloc (.cells (L.flatMap opCells).toArray 41)).alloc (.cells #[.slice (some ⟨w.heap.size, 0, none⟩) L.length L.length, .int .i64 t.kind, .int .i64 t.a, .int .i64 t.yes, .int .i64 t.no] 39)).alloc (.cells #[.int .i64 T, .slice none 0 0, .slice (some ⟨w.heap.size + 1, 0, none⟩) 1 1, .int .i64 0, .int .i64 0] 25))
      (((w.alloc (.cells (L.flatMap opCells).toArray 41)).alloc (.cells #[.slice (some ⟨w.heap.size, 0, none⟩) L.length L.length, .int .i64 t.kind, .int .i64 t.a, .int .i64 t.yes, .int .i64 t.no] 39)).alloc (.cells #[.int .i64 T, .slice none 0 0, .slice (some ⟨w.heap.size + 1, 0, none⟩) 1 1, .int .i64 0, .int .i64 0] 25)).heap.size
      ⟨T, [], [⟨L, t⟩], 0, 0⟩ (.slice none 0 0) (.slice (some ⟨w.heap.size + 1, 0, none⟩) 1 1) := by
  have h1 := alloc_size w (.cells (L.flatMap opCells).toArray 41) rfl
  refine ⟨SlRep.nil_ _ _, ?_⟩
  have hA := alloc_old (alloc_old (alloc_last w _ rfl (.cells (L.flatMap opCells).toArray 41)) (.cells #[.slice (some ⟨w.heap.size, 0, none⟩) L.length L.length, .int .i64 t.kind, .int .i64 t.a, .int .i64 t.yes, .int .i64 t.no] 39)) (.cells #[.int .i64 T, .slice none 0 0, .slice (some ⟨w.heap.size + 1, 0, none⟩) 1 1, .int .i64 0, .int .i64 0] 25)
  have hB := alloc_old (alloc_last _ _ h1 (.cells #[.slice (some ⟨w.heap.size, 0, none⟩) L.length L.length, .int .i64 t.kind, .int .i64 t.a, .int .i64 t.yes, .int .i64 t.no] 39)) (.cells #[.int .i64 T, .slice none 0 0, .slice (some ⟨w.heap.size + 1, 0, none⟩) 1 1, .int .i64 0, .int .i64 0] 25)
  exact slRep_one (E := blkEnc) (es := .slice (some ⟨w.heap.size, 0, none⟩) L.length L.length :: trmCells t) hB (lt_of_blk hB) ⟨_, rfl, slRep_rows (E := opEnc) L opCells (fun _ => rfl) hA (lt_of_blk hA) (fun _ _ => rfl)⟩
end Go.Proofs.Ytfadeipdepamlaa
namespace Go.Proofs.Ytfadeipdepamlaa
open Go.RowKit
set_option linter.unusedVariables false
/-- Does an operation write this temp? -/
def ftHit (t : Int) (o : Opn) : Bool := fDst o.kind && decide (o.dst = t)
/-- The last operation that writes a temp. -/
def ftLast (l : List Opn) (t : Int) : Option Opn := l.reverse.find? (ftHit t)
def ftNum (o : Opn) : Option Int := if o.kind = 1 then some o.imm else none
def ftKn (l : List Opn) (t : Int) : Option Int := (ftLast l t).bind ftNum
def FtOf (l : List Opn) (f : Int → Option Int) : Prop := ∀ t, ftKn l t = f t
theorem ftKn_snoc (l : List Opn) (q : Opn) (t : Int) : ftKn (l ++ [q]) t = if ftHit t q = true then ftNum q else ftKn l t := by
  unfold ftKn ftLast
  rw [List.reverse_append, List.reverse_singleton, List.singleton_append, List.find?_cons]
  cases h : ftHit t q <;> simp
theorem FtOf.nil_ : FtOf [] (fun _ => none) := fun t => rfl
theorem fDst_one : fDst 1 = true := rfl
theorem FtOf.step {l : List Opn} {f : Int → Option Int} (h : FtOf l f) (q : Opn) : FtOf (l ++ [q]) (fdMap f q) := fun t => by
  rw [ftKn_snoc, h t]
  unfold fdMap
  by_cases hk : q.kind = 1
  · rw [if_pos hk]
    unfold ftHit ftNum upd
    rw [hk, fDst_one, Bool.true_and, if_pos rfl]
    by_cases ht : q.dst = t
    · rw [decide_eq_true ht, if_pos rfl, if_pos ht.symm]
    · rw [decide_eq_false ht, if_neg (by decide), if_neg (fun e => ht e.symm)]
  · rw [if_neg hk]
    unfold ftHit ftNum
    cases hd : fDst q.kind with
    | false => simp
    | true =>
      rw [Bool.true_and, if_pos rfl, if_neg hk]
      by_cases ht : q.dst = t
      · rw [decide_eq_true ht, if_pos rfl, if_pos ht.symm]
      · rw [decide_eq_false ht, if_neg (by decide), if_neg (fun e => ht e.symm)]
theorem ft_fold : ∀ (l : List Opn) (s : (Int → Option Int) × List Opn), FtOf s.2 s.1 → FtOf (l.foldl fdStep s).2 (l.foldl fdStep s).1
  | [], s, h => h
  | o :: l, s, h => by
    rw [List.foldl_cons]
    exact ft_fold l _ (h.step (fdOp s.1 o))
theorem ft_list (l : List Opn) : FtOf (fdList l).2 (fdList l).1 := ft_fold l _ FtOf.nil_
theorem ftKn_take (l : List Opn) (t : Int) (k : Nat) (hk : k < l.length) : ftKn (l.take (k + 1)) t = if ftHit t (l.getD k opNone) = true then ftNum (l.getD k opNone) else ftKn (l.take k) t := by
  rw [take_succ_getD l k opNone hk, ftKn_snoc]
end Go.Proofs.Ytfadeipdepamlaa
