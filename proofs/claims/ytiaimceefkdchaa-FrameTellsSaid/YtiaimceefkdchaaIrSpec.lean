/- Which programs of blocks may be: what both texts tell. Plain definitions and facts. -/
import Derived.Test.YtiaimceefkdchaaIr
namespace Go.Proofs.Ytiaimceefkdchaa
open Go.RowKit
set_option linter.unusedVariables false

def shapedP (a : Arr) : Prop := (a.elem = 1 ∨ a.elem = 4) ∧ 1 ≤ a.len ∧ a.len ≤ 16384
instance (a : Arr) : Decidable (shapedP a) := by unfold shapedP; infer_instance
def up4 (n : Int) : Int := (n + 3) / 4 * 4
def room (a : Arr) : Int := if shapedP a then up4 (a.elem * a.len) else 0
def railBytes (a : Arr) : Int := if a.kind = 0 then room a else 0
def railSum : List Arr → Int
  | [] => 0
  | a :: l => railBytes a + railSum l
def opsSum : List Blk → Nat
  | [] => 0
  | b :: l => b.ops.length + opsSum l
def greatP (p : Ir) : Prop := 1048576 < p.temps ∨ 1048576 < (p.arrays.length : Int) ∨ 1048576 < (p.blocks.length : Int) ∨ 1048576 < (opsSum p.blocks : Int) ∨ 65536 < max p.out 0 + railSum p.arrays
instance (p : Ir) : Decidable (greatP p) := by unfold greatP; infer_instance
theorem room_range (a : Arr) : 0 ≤ room a ∧ room a ≤ 65536 := by
  unfold room up4
  split
  · rename_i h
    obtain ⟨h1, h2, h3⟩ := h
    rcases h1 with h1 | h1 <;> rw [h1] <;> omega
  · omega
theorem railBytes_range (a : Arr) : 0 ≤ railBytes a ∧ railBytes a ≤ 65536 := by
  have := room_range a
  unfold railBytes; split <;> omega
theorem railSum_append : ∀ l m : List Arr, railSum (l ++ m) = railSum l + railSum m
  | [], m => by simp [railSum]
  | a :: l, m => by rw [List.cons_append, railSum, railSum, railSum_append l m]; omega
theorem railSum_nonneg : ∀ l : List Arr, 0 ≤ railSum l
  | [] => by simp [railSum]
  | a :: l => by have := railBytes_range a; have := railSum_nonneg l; rw [railSum]; omega
theorem railSum_take (l : List Arr) (k : Nat) : railSum (l.take k) ≤ railSum l := by
  have h : railSum (l.take k ++ l.drop k) = _ := railSum_append _ _
  rw [List.take_append_drop] at h
  have := railSum_nonneg (l.drop k)
  omega
theorem opsSum_append : ∀ l m : List Blk, opsSum (l ++ m) = opsSum l + opsSum m
  | [], m => by simp [opsSum]
  | a :: l, m => by rw [List.cons_append, opsSum, opsSum, opsSum_append l m]; omega
theorem opsSum_take (l : List Blk) (k : Nat) : opsSum (l.take k) ≤ opsSum l := by
  have h : opsSum (l.take k ++ l.drop k) = _ := opsSum_append _ _
  rw [List.take_append_drop] at h
  omega
/-- May an array be, and where does the output's next one begin? -/
def arrStep (inp out en : Int) (a : Arr) : Option Int :=
  if ¬ shapedP a then none
  else if a.kind = 0 then (if a.off = 0 then some en else none)
  else if a.kind = 1 then (if 0 ≤ a.off ∧ a.off ≤ inp - a.elem * a.len ∧ a.off % 4 = 0 then some en else none)
  else if a.kind = 2 then (if en ≤ a.off ∧ a.off ≤ out - a.elem * a.len ∧ a.off % 4 = 0 then some (up4 (a.off + a.elem * a.len)) else none)
  else none
def arrEnd (inp out : Int) : List Arr → Int → Option Int
  | [], en => some en
  | a :: l, en => match arrStep inp out en a with
    | none => none
    | some e => arrEnd inp out l e
theorem arrEnd_append (inp out : Int) : ∀ (l m : List Arr) (en : Int), arrEnd inp out (l ++ m) en = match arrEnd inp out l en with
    | none => none
    | some e => arrEnd inp out m e
  | [], m, en => rfl
  | a :: l, m, en => by
    rw [List.cons_append, arrEnd, arrEnd]
    cases arrStep inp out en a with
    | none => rfl
    | some e => exact arrEnd_append inp out l m e
/-- An operation's form: does it make a temp, how many does it read, its number's bound, is there one? -/
def fDst (k : Int) : Bool := decide (1 ≤ k ∧ k ≤ 18)
def fSrc (k : Int) : Nat := if k = 2 ∨ k = 10 ∨ k = 11 ∨ k = 12 ∨ k = 13 ∨ k = 18 then 1 else if k = 17 then 3 else if 3 ≤ k ∧ k ≤ 19 then 2 else 0
def fMost (k : Int) : Int := if k = 1 then 4294967295 else if 11 ≤ k ∧ k ≤ 13 then 31 else if k = 18 ∨ k = 19 then 1048576 else 0
def fOk (k : Int) : Bool := decide (1 ≤ k ∧ k ≤ 19)
def isTemp (p : Ir) (t : Int) : Prop := 0 ≤ t ∧ t < p.temps
instance (p : Ir) (t : Int) : Decidable (isTemp p t) := by unfold isTemp; infer_instance
def fieldP (p : Ir) (there : Bool) (t : Int) : Prop := if there then isTemp p t else t = 0
instance (p : Ir) (b : Bool) (t : Int) : Decidable (fieldP p b t) := by unfold fieldP; infer_instance
def arrNone : Arr := ⟨0, 0, 0, 0⟩
def opP (p : Ir) (o : Opn) : Prop := fOk o.kind = true ∧ (0 ≤ o.imm ∧ o.imm ≤ fMost o.kind) ∧ fieldP p (fDst o.kind) o.dst ∧ fieldP p (decide (0 < fSrc o.kind)) o.a ∧ fieldP p (decide (1 < fSrc o.kind)) o.b ∧ fieldP p (decide (2 < fSrc o.kind)) o.c ∧
  (o.kind = 18 ∨ o.kind = 19 → o.imm < p.arrays.length ∧ (o.kind = 18 ∨ (p.arrays.getD o.imm.toNat arrNone).kind ≠ 1))
instance (p : Ir) (o : Opn) : Decidable (opP p o) := by unfold opP; infer_instance
def labelP (p : Ir) (n : Int) : Prop := -1 ≤ n ∧ n < p.blocks.length
instance (p : Ir) (n : Int) : Decidable (labelP p n) := by unfold labelP; infer_instance
def trmP (p : Ir) (t : Trm) : Prop := (t.kind = 1 ∧ t.a = 0 ∧ t.no = 0 ∧ labelP p t.yes) ∨ (t.kind = 2 ∧ isTemp p t.a ∧ labelP p t.yes ∧ labelP p t.no) ∨ (t.kind = 3 ∧ t.a = 0 ∧ t.yes = 0 ∧ t.no = 0)
instance (p : Ir) (t : Trm) : Decidable (trmP p t) := by unfold trmP; infer_instance
def blkP (p : Ir) (b : Blk) : Prop := (∀ o ∈ b.ops, opP p o) ∧ trmP p b.term
instance (p : Ir) (b : Blk) : Decidable (blkP p b) := by unfold blkP; infer_instance
def headP (p : Ir) : Prop := (0 ≤ p.inp ∧ p.inp ≤ 65536 ∧ p.inp % 4 = 0) ∧ (0 ≤ p.out ∧ p.out ≤ 65536 ∧ p.out % 4 = 0) ∧ 0 ≤ p.temps ∧ p.blocks ≠ []
instance (p : Ir) : Decidable (headP p) := by unfold headP; infer_instance
def mayP (p : Ir) : Prop := headP p ∧ (arrEnd p.inp p.out p.arrays 0).isSome = true ∧ ∀ b ∈ p.blocks, blkP p b
instance (p : Ir) : Decidable (mayP p) := by unfold mayP; infer_instance
/-- The error of a program of blocks; 0: it may be. -/
def irErr (p : Ir) : Int := if greatP p then 18 else if mayP p then 0 else 2
end Go.Proofs.Ytiaimceefkdchaa
