/- Parts of a proof, joined. No condition but those that each theorem names. -/
import Derived.WalkKit
import Derived.OpenShut
import Derived.Below
import Derived.Lib.Hide
import Derived.Laws.OwnMore
import Derived.Deep.QuietTactic
import Derived.Deep.AppendLies
import Derived.ProofKit
import Derived.SizedLaws
import Derived.Test.YtfadeipdepamlaaProg
import Derived.Test.YtfadeipdepamlaaSdG0e0
import Derived.Test.YtfadeipdepamlaaSdIr
namespace Go.Proofs.Ytfadeipdepamlaa
open Go.RowKit
set_option linter.unusedVariables false

def shapedP (a : Arr) : Prop := (a.elem = 1 ∨ a.elem = 4) ∧ 1 ≤ a.len ∧ a.len ≤ 16384
instance (a : Arr) : Decidable (shapedP a) := by unfold shapedP; infer_instance
def up4 (n : Int) : Int := (n + 3) / 4 * 4
def room (a : Arr) : Int := if shapedP a then up4 (a.elem * a.len) else 0
def railBytes (a : Arr) : Int := if a.kind = 0 then room a else 0
def railSum : List Arr → Int
  | [] => 0
  | a :: l => railBytes a + railSum l
def opsSum : List Blk → Nat
  | [] => 0
  | b :: l => b.ops.length + opsSum l
def greatP (p : Ir) : Prop := 1048576 < p.temps ∨ 1048576 < (p.arrays.length : Int) ∨ 1048576 < (p.blocks.length : Int) ∨ 1048576 < (opsSum p.blocks : Int) ∨ 65536 < max p.out 0 + railSum p.arrays
instance (p : Ir) : Decidable (greatP p) := by unfold greatP; infer_instance
theorem room_range (a : Arr) : 0 ≤ room a ∧ room a ≤ 65536 := by
  unfold room up4
  split
  · rename_i h
    obtain ⟨h1, h2, h3⟩ := h
    rcases h1 with h1 | h1 <;> rw [h1] <;> omega
  · omega
theorem railBytes_range (a : Arr) : 0 ≤ railBytes a ∧ railBytes a ≤ 65536 := by
  have := room_range a
  unfold railBytes; split <;> omega
theorem railSum_append : ∀ l m : List Arr, railSum (l ++ m) = railSum l + railSum m
  | [], m => by simp [railSum]
  | a :: l, m => by rw [List.cons_append, railSum, railSum, railSum_append l m]; omega
theorem railSum_nonneg : ∀ l : List Arr, 0 ≤ railSum l
  | [] => by simp [railSum]
  | a :: l => by have := railBytes_range a; have := railSum_nonneg l; rw [railSum]; omega
theorem railSum_take (l : List Arr) (k : Nat) : railSum (l.take k) ≤ railSum l := by
  have h : railSum (l.take k ++ l.drop k) = _ := railSum_append _ _
  rw [List.take_append_drop] at h
  have := railSum_nonneg (l.drop k)
  omega
theorem opsSum_append : ∀ l m : List Blk, opsSum (l ++ m) = opsSum l + opsSum m
  | [], m => by simp [opsSum]
  | a :: l, m => by rw [List.cons_append, opsSum, opsSum, opsSum_append l m]; omega
theorem opsSum_take (l : List Blk) (k : Nat) : opsSum (l.take k) ≤ opsSum l := by
  have h : opsSum (l.take k ++ l.drop k) = _ := opsSum_append _ _
  rw [List.take_append_drop] at h
  omega
/-- May an array be, and where does the output's next one begin? -/
def arrStep (inp out en : Int) (a : Arr) : Option Int :=
  if ¬ shapedP a then none
  else if a.kind = 0 then (if a.off = 0 then some en else none)
  else if a.kind = 1 then (if 0 ≤ a.off ∧ a.off ≤ inp - a.elem * a.len ∧ a.off % 4 = 0 then some en else none)
  else if a.kind = 2 then (if en ≤ a.off ∧ a.off ≤ out - a.elem * a.len ∧ a.off % 4 = 0 then some (up4 (a.off + a.elem * a.len)) else none)
  else none
def arrEnd (inp out : Int) : List Arr → Int → Option Int
  | [], en => some en
  | a :: l, en => match arrStep inp out en a with
    | none => none
    | some e => arrEnd inp out l e
theorem arrEnd_append (inp out : Int) : ∀ (l m : List Arr) (en : Int), arrEnd inp out (l ++ m) en = match arrEnd inp out l en with
    | none => none
    | some e => arrEnd inp out m e
  | [], m, en => rfl
  | a :: l, m, en => by
    rw [List.cons_append, arrEnd, arrEnd]
    cases arrStep inp out en a with
    | none => rfl
    | some e => exact arrEnd_append inp out l m e
/-- An operation's form: does it make a temp, how many does it read, its number's bound, is there one? -/
def fDst (k : Int) : Bool := decide (1 ≤ k ∧ k ≤ 18)
def fSrc (k : Int) : Nat := if k = 2 ∨ k = 10 ∨ k = 11 ∨ k = 12 ∨ k = 13 ∨ k = 18 then 1 else if k = 17 then 3 else if 3 ≤ k ∧ k ≤ 19 then 2 else 0
def fMost (k : Int) : Int := if k = 1 then 4294967295 else if 11 ≤ k ∧ k ≤ 13 then 31 else if k = 18 ∨ k = 19 then 1048576 else 0
def fOk (k : Int) : Bool := decide (1 ≤ k ∧ k ≤ 19)
def isTemp (p : Ir) (t : Int) : Prop := 0 ≤ t ∧ t < p.temps
instance (p : Ir) (t : Int) : Decidable (isTemp p t) := by unfold isTemp; infer_instance
def fieldP (p : Ir) (there : Bool) (t : Int) : Prop := if there then isTemp p t else t = 0
instance (p : Ir) (b : Bool) (t : Int) : Decidable (fieldP p b t) := by unfold fieldP; infer_instance
def arrNone : Arr := ⟨0, 0, 0, 0⟩
def opP (p : Ir) (o : Opn) : Prop := fOk o.kind = true ∧ (0 ≤ o.imm ∧ o.imm ≤ fMost o.kind) ∧ fieldP p (fDst o.kind) o.dst ∧ fieldP p (decide (0 < fSrc o.kind)) o.a ∧ fieldP p (decide (1 < fSrc o.kind)) o.b ∧ fieldP p (decide (2 < fSrc o.kind)) o.c ∧
  (o.kind = 18 ∨ o.kind = 19 → o.imm < p.arrays.length ∧ (o.kind = 18 ∨ (p.arrays.getD o.imm.toNat arrNone).kind ≠ 1))
instance (p : Ir) (o : Opn) : Decidable (opP p o) := by unfold opP; infer_instance
def labelP (p : Ir) (n : Int) : Prop := -1 ≤ n ∧ n < p.blocks.length
instance (p : Ir) (n : Int) : Decidable (labelP p n) := by unfold labelP; infer_instance
def trmP (p : Ir) (t : Trm) : Prop := (t.kind = 1 ∧ t.a = 0 ∧ t.no = 0 ∧ labelP p t.yes) ∨ (t.kind = 2 ∧ isTemp p t.a ∧ labelP p t.yes ∧ labelP p t.no) ∨ (t.kind = 3 ∧ t.a = 0 ∧ t.yes = 0 ∧ t.no = 0)
instance (p : Ir) (t : Trm) : Decidable (trmP p t) := by unfold trmP; infer_instance
def blkP (p : Ir) (b : Blk) : Prop := (∀ o ∈ b.ops, opP p o) ∧ trmP p b.term
instance (p : Ir) (b : Blk) : Decidable (blkP p b) := by unfold blkP; infer_instance
def headP (p : Ir) : Prop := (0 ≤ p.inp ∧ p.inp ≤ 65536 ∧ p.inp % 4 = 0) ∧ (0 ≤ p.out ∧ p.out ≤ 65536 ∧ p.out % 4 = 0) ∧ 0 ≤ p.temps ∧ p.blocks ≠ []
instance (p : Ir) : Decidable (headP p) := by unfold headP; infer_instance
def mayP (p : Ir) : Prop := headP p ∧ (arrEnd p.inp p.out p.arrays 0).isSome = true ∧ ∀ b ∈ p.blocks, blkP p b
instance (p : Ir) : Decidable (mayP p) := by unfold mayP; infer_instance
/-- The error of a program of blocks; 0: it may be. -/
def irErr (p : Ir) : Int := if greatP p then 18 else if mayP p then 0 else 2
end Go.Proofs.Ytfadeipdepamlaa
namespace Go.Proofs.Ytfadeipdepamlaa
open Go.RowKit
set_option linter.unusedVariables false
def trmNone : Trm := ⟨0, 0, 0, 0⟩
def blkNone : Blk := ⟨[], trmNone⟩
def opNone : Opn := ⟨0, 0, 0, 0, 0, 0⟩
theorem getD_some {T : Type} (l : List T) (k : Nat) (d : T) (h : k < l.length) : l[k]? = some (l.getD k d) := by
  rw [List.getD_eq_getElem?_getD, List.getElem?_eq_getElem h]; rfl
theorem getD_memI {T : Type} (l : List T) (k : Nat) (d : T) (h : k < l.length) : l.getD k d ∈ l := by
  rw [List.getD_eq_getElem?_getD, List.getElem?_eq_getElem h]; exact List.getElem_mem h
theorem take_succ_getD {T : Type} (l : List T) (k : Nat) (d : T) (h : k < l.length) : l.take (k + 1) = l.take k ++ [l.getD k d] := by
  rw [List.take_succ_eq_append_getElem h, List.getD_eq_getElem?_getD, List.getElem?_eq_getElem h]; rfl
/-- A slice that reads as a list is a slice of that length. -/
theorem SlRep.form {T : Type} {E : Enc T} {w : World} {B : Nat} {v : Value} {l : List T} (h : SlRep E w B v l) : ∃ A c, v = .slice A l.length c ∧ l.length ≤ c := by
  obtain ⟨A, c, e, hc, _⟩ := h
  exact ⟨A, c, e, hc⟩
theorem arr_at {w : World} {B : Nat} {A : Option Addr} {c : Nat} {l : List Arr} (h : SlRep arrEnc w B (.slice A l.length c) l) (k : Nat) (hk : k < l.length) :
    ∃ b off, A = some ⟨b, off, none⟩ ∧ b < B ∧ w.cell? ⟨b, off + k * 4, none⟩ = some (.int .i64 (l.getD k arrNone).elem) ∧ w.cell? ⟨b, off + k * 4 + 1, none⟩ = some (.int .i64 (l.getD k arrNone).len) ∧
      w.cell? ⟨b, off + k * 4 + 2, none⟩ = some (.int .i64 (l.getD k arrNone).kind) ∧ w.cell? ⟨b, off + k * 4 + 3, none⟩ = some (.int .i64 (l.getD k arrNone).off) := by
  obtain ⟨A', c', e, _, h⟩ := h
  injection e with e
  subst e
  obtain ⟨b, off, es, e1, h1, h2, h3⟩ := h k _ (getD_some l k arrNone hk)
  have h2 : es = arrCells (l.getD k arrNone) := h2
  subst h2
  exact ⟨b, off, e1, h1, h3 0 _ rfl, h3 1 _ rfl, h3 2 _ rfl, h3 3 _ rfl⟩
theorem op_at {w : World} {B : Nat} {A : Option Addr} {c : Nat} {l : List Opn} (h : SlRep opEnc w B (.slice A l.length c) l) (k : Nat) (hk : k < l.length) :
    ∃ b off, A = some ⟨b, off, none⟩ ∧ b < B ∧ w.cell? ⟨b, off + k * 6, none⟩ = some (.int .i64 (l.getD k opNone).kind) ∧ w.cell? ⟨b, off + k * 6 + 1, none⟩ = some (.int .i64 (l.getD k opNone).dst) ∧
      w.cell? ⟨b, off + k * 6 + 2, none⟩ = some (.int .i64 (l.getD k opNone).a) ∧ w.cell? ⟨b, off + k * 6 + 3, none⟩ = some (.int .i64 (l.getD k opNone).b) ∧
      w.cell? ⟨b, off + k * 6 + 4, none⟩ = some (.int .i64 (l.getD k opNone).c) ∧ w.cell? ⟨b, off + k * 6 + 5, none⟩ = some (.int .i64 (l.getD k opNone).imm) := by
  obtain ⟨A', c', e, _, h⟩ := h
  injection e with e
  subst e
  obtain ⟨b, off, es, e1, h1, h2, h3⟩ := h k _ (getD_some l k opNone hk)
  have h2 : es = opCells (l.getD k opNone) := h2
  subst h2
  exact ⟨b, off, e1, h1, h3 0 _ rfl, h3 1 _ rfl, h3 2 _ rfl, h3 3 _ rfl, h3 4 _ rfl, h3 5 _ rfl⟩
theorem blk_at {w : World} {B : Nat} {A : Option Addr} {c : Nat} {l : List Blk} (h : SlRep blkEnc w B (.slice A l.length c) l) (k : Nat) (hk : k < l.length) :
    ∃ b off, A = some ⟨b, off, none⟩ ∧ b < B ∧ ∃ OA oc, SlRep opEnc w B (.slice OA (l.getD k blkNone).ops.length oc) (l.getD k blkNone).ops ∧ (l.getD k blkNone).ops.length ≤ oc ∧
      w.cell? ⟨b, off + k * 5, none⟩ = some (.slice OA (l.getD k blkNone).ops.length oc) ∧ w.cell? ⟨b, off + k * 5 + 1, none⟩ = some (.int .i64 (l.getD k blkNone).term.kind) ∧
      w.cell? ⟨b, off + k * 5 + 2, none⟩ = some (.int .i64 (l.getD k blkNone).term.a) ∧ w.cell? ⟨b, off + k * 5 + 3, none⟩ = some (.int .i64 (l.getD k blkNone).term.yes) ∧
      w.cell? ⟨b, off + k * 5 + 4, none⟩ = some (.int .i64 (l.getD k blkNone).term.no) := by
  obtain ⟨A', c', e, _, h⟩ := h
  injection e with e
  subst e
  obtain ⟨b, off, es, e1, h1, h2, h3⟩ := h k _ (getD_some l k blkNone hk)
  have h2 : ∃ v, es = v :: trmCells (l.getD k blkNone).term ∧ SlRep opEnc w B v (l.getD k blkNone).ops := h2
  obtain ⟨v, rfl, hv⟩ := h2
  obtain ⟨OA, oc, rfl, hoc⟩ := hv.form
  exact ⟨b, off, e1, h1, OA, oc, hv, hoc, h3 0 _ rfl, h3 1 _ rfl, h3 2 _ rfl, h3 3 _ rfl, h3 4 _ rfl⟩
theorem opsSum_step (l : List Blk) (k : Nat) (h : k < l.length) : opsSum (l.take (k + 1)) = opsSum (l.take k) + (l.getD k blkNone).ops.length := by
  rw [take_succ_getD l k blkNone h, opsSum_append]; rfl
theorem railSum_step (l : List Arr) (k : Nat) (h : k < l.length) : railSum (l.take (k + 1)) = railSum (l.take k) + railBytes (l.getD k arrNone) := by
  rw [take_succ_getD l k arrNone h, railSum_append]
  show _ = _ + _
  congr 1
  show railBytes _ + 0 = _
  omega
theorem arrEnd_step (inp out : Int) (l : List Arr) (k : Nat) (h : k < l.length) (e : Int) (he : arrEnd inp out (l.take k) 0 = some e) : arrEnd inp out (l.take (k + 1)) 0 = arrStep inp out e (l.getD k arrNone) := by
  rw [take_succ_getD l k arrNone h, arrEnd_append, he]
  show arrEnd inp out [_] e = _
  unfold arrEnd
  cases arrStep inp out e (l.getD k arrNone) <;> rfl
theorem arrEnd_fail (inp out : Int) (l : List Arr) (k : Nat) (he : arrEnd inp out (l.take k) 0 = none) : arrEnd inp out l 0 = none := by
  have h := arrEnd_append inp out (l.take k) (l.drop k) 0
  rw [List.take_append_drop, he] at h
  exact h
theorem great_ops (p : Ir) (k : Nat) (h : 1048576 < (opsSum (p.blocks.take k) : Int)) : greatP p := by
  have := opsSum_take p.blocks k
  unfold greatP; omega
theorem great_rail (p : Ir) (k : Nat) (h : 65536 < max p.out 0 + railSum (p.arrays.take k)) : greatP p := by
  have := railSum_take p.arrays k
  unfold greatP; omega
end Go.Proofs.Ytfadeipdepamlaa
namespace Go.Proofs.Ytfadeipdepamlaa
open Go.RowKit
set_option linter.unusedVariables false
theorem irErr_ok {p : Ir} (h : irErr p = 0) : ¬ greatP p ∧ mayP p := by
  unfold irErr at h
  by_cases hg : greatP p
  · rw [if_pos hg] at h; exact absurd h (by decide)
  · rw [if_neg hg] at h
    refine ⟨hg, ?_⟩
    by_cases hm : mayP p
    · exact hm
    · rw [if_neg hm] at h; exact absurd h (by decide)
end Go.Proofs.Ytfadeipdepamlaa
