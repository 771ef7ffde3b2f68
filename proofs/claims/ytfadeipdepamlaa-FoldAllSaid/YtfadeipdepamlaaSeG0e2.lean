/- Parts of a proof, joined. No condition but those that each theorem names. -/
import Derived.WalkKit
import Derived.OpenShut
import Derived.Below
import Derived.Lib.Hide
import Derived.Laws.OwnMore
import Derived.Deep.QuietTactic
import Derived.Deep.AppendLies
import Derived.ProofKit
import Derived.SizedLaws
import Derived.Test.YtfadeipdepamlaaProg
import Derived.Test.YtfadeipdepamlaaSeG0e0
import Derived.Test.YtfadeipdepamlaaSeG0e1
namespace Go.Proofs.Ytfadeipdepamlaa
open Go.ChangeShapes Go.WideShapes Go.ChangeAt Go.RowKit
set_option linter.unusedVariables false

structure Arr where
  elem : Int
  len : Int
  kind : Int
  off : Int
structure Opn where
  kind : Int
  dst : Int
  a : Int
  b : Int
  c : Int
  imm : Int
structure Trm where
  kind : Int
  a : Int
  yes : Int
  no : Int
structure Blk where
  ops : List Opn
  term : Trm
structure Ir where
  temps : Int
  arrays : List Arr
  blocks : List Blk
  inp : Int
  out : Int
def arrCells (x : Arr) : List Value := [.int .i64 x.elem, .int .i64 x.len, .int .i64 x.kind, .int .i64 x.off]
def opCells (x : Opn) : List Value := [.int .i64 x.kind, .int .i64 x.dst, .int .i64 x.a, .int .i64 x.b, .int .i64 x.c, .int .i64 x.imm]
def trmCells (x : Trm) : List Value := [.int .i64 x.kind, .int .i64 x.a, .int .i64 x.yes, .int .i64 x.no]
def arrEnc : Enc Arr := flatEnc 4 arrCells (fun _ => rfl)
def opEnc : Enc Opn := flatEnc 6 opCells (fun _ => rfl)
def blkEnc : Enc Blk where
  size := 5
  rep w B es t := ∃ v, es = v :: trmCells t.term ∧ SlRep opEnc w B v t.ops
  len h := by obtain ⟨v, rfl, _⟩ := h; rfl
  keep h hB hk := by obtain ⟨v, e, h⟩ := h; exact ⟨v, e, h.keep hB hk⟩
/-- A program that these two slices and numbers make. -/
def irVal (p : Ir) (av bv : Value) : Value := .agg #[.int .i64 p.temps, av, bv, .int .i64 p.inp, .int .i64 p.out]
def IrRep (w : World) (B : Nat) (p : Ir) (av bv : Value) : Prop := SlRep arrEnc w B av p.arrays ∧ SlRep blkEnc w B bv p.blocks
theorem IrRep.below {w w' : World} {B C : Nat} {p : Ir} {av bv : Value} (h : IrRep w B p av bv) (hb : Below C w w') (hB : B ≤ C) : IrRep w' B p av bv := ⟨h.1.below hb hB, h.2.below hb hB⟩
theorem IrRep.next {w w' : World} {p : Ir} {av bv : Value} (h : IrRep w w.heap.size p av bv) (hb : Below w.heap.size w w') : IrRep w' w'.heap.size p av bv := ⟨h.1.next hb, h.2.next hb⟩
theorem op_cells : Try.prog.cellsOf 41 = 6 := by kernel_rfl
def IntR (n : Int) : Prop := -9223372036854775808 ≤ n ∧ n ≤ 9223372036854775807
theorem intR_wf {n : Int} (h : (Lit.int .i64 n).wf = true) : IntR n := bounds_i64 h
def Arr.fine (x : Arr) : Prop := IntR x.elem ∧ IntR x.len ∧ IntR x.kind ∧ IntR x.off
def Opn.fine (x : Opn) : Prop := IntR x.kind ∧ IntR x.dst ∧ IntR x.a ∧ IntR x.b ∧ IntR x.c ∧ IntR x.imm
def Trm.fine (x : Trm) : Prop := IntR x.kind ∧ IntR x.a ∧ IntR x.yes ∧ IntR x.no
/-- What is known of any program that comes in. -/
def Blk.fine (x : Blk) : Prop := x.ops.length ≤ 4398046511104 ∧ (∀ o ∈ x.ops, o.fine) ∧ x.term.fine
def Ir.fine (p : Ir) : Prop := IntR p.temps ∧ IntR p.inp ∧ IntR p.out ∧ p.arrays.length ≤ 4398046511104 ∧ p.blocks.length ≤ 4398046511104 ∧ (∀ x ∈ p.arrays, x.fine) ∧ (∀ x ∈ p.blocks, x.fine)
theorem opens_op {W : World} {B : Nat} : Opens Try.prog W B 41 (fun cs => ∃ e : Opn, cs = opCells e ∧ e.fine) := by
  refine (opens_flat Try.underlying41 (by kernel_rfl) (fun _ v => ∃ n, v = .int .i64 n ∧ (Lit.int .i64 n).wf = true) ?_).mono ?_
  · intro i f hf
    match i, hf with
    | 0, hf | 1, hf | 2, hf | 3, hf | 4, hf | 5, hf => simp at hf; subst hf; exact opens_int1 Try.underlying3
    | i + 6, hf => simp at hf
  · intro cs ⟨hl, hf⟩
    rw [op_cells] at hl
    match cs, hl with
    | [x0, x1, x2, x3, x4, x5], _ =>
      obtain ⟨a, rfl, h0⟩ := hf 0 _ (by decide) rfl
      obtain ⟨b, rfl, h1⟩ := hf 1 _ (by decide) rfl
      obtain ⟨c, rfl, h2⟩ := hf 2 _ (by decide) rfl
      obtain ⟨d, rfl, h3⟩ := hf 3 _ (by decide) rfl
      obtain ⟨e, rfl, h4⟩ := hf 4 _ (by decide) rfl
      obtain ⟨f, rfl, h5⟩ := hf 5 _ (by decide) rfl
      exact ⟨⟨a, b, c, d, e, f⟩, rfl, intR_wf h0, intR_wf h1, intR_wf h2, intR_wf h3, intR_wf h4, intR_wf h5⟩
/-- A slice's cells, as a list of its elements. -/
theorem slRep_of {P : Program} {W : World} {B : Nat} {e : TypeId} {T : Type} {E : Enc T} {G : T → Prop} {R : List Value → Prop} {cs : List Value} (hsz : P.cellsOf e = E.size) (hpos : 0 < E.size) (hR : ∀ es, R es → ∃ t, E.rep W B es t ∧ G t) (h : SliceCells P W B e R cs) :
    ∃ v l, cs = [v] ∧ SlRep E W B v l ∧ (∀ t ∈ l, G t) ∧ l.length * P.bytesOf e ≤ reachBytes := by
  obtain ⟨A, len, cap, rfl, h1, h2, h3, h4, h5, h6⟩ := h
  have hx : ∀ i : Fin len, ∃ t : T, G t ∧ ∃ a es, A = some a ∧ E.rep W B es t ∧ ∀ j u, es[j]? = some u → W.cell? (a.add (i * E.size + j)) = some u := by
    intro i
    obtain ⟨a, es, ha, _, hr, hc⟩ := h6 i i.2
    obtain ⟨t, ht, hg⟩ := hR es hr
    rw [hsz] at hc
    exact ⟨t, hg, a, es, ha, ht, hc⟩
  obtain ⟨f, hf⟩ := Classical.axiomOfChoice hx
  refine ⟨_, List.ofFn f, rfl, ⟨A, cap, by simp, by simpa using h1, fun k t hk => ?_⟩, fun t ht => ?_, ?_⟩
  · rw [List.getElem?_ofFn] at hk
    split at hk
    · rename_i hlt
      injection hk with hk
      subst hk
      obtain ⟨_, a, es, ha, hr, hc⟩ := hf ⟨k, hlt⟩
      rw [hsz] at h5
      obtain ⟨b, off, rfl, hb⟩ := h5 (Nat.mul_pos (by omega) hpos)
      injection ha with ha
      subst ha
      refine ⟨b, off, es, rfl, hb, hr, fun j u hu => ?_⟩
      have := hc j u hu
      rw [show ((⟨b, off, none⟩ : Addr).add (k * E.size + j)) = ⟨b, off + k * E.size + j, none⟩ by
        unfold Addr.add; split
        · rename_i h; simp
        · simp [← Nat.add_assoc]] at this
      exact this
    · cases hk
  · obtain ⟨i, rfl⟩ := (List.mem_ofFn).1 ht
    exact (hf i).1
  · rw [List.length_ofFn]
    exact Nat.le_trans (Nat.mul_le_mul_right _ h1) h3
end Go.Proofs.Ytfadeipdepamlaa
namespace Go.Proofs.Ytfadeipdepamlaa
open Go.RowKit
set_option linter.unusedVariables false

def shapedP (a : Arr) : Prop := (a.elem = 1 ∨ a.elem = 4) ∧ 1 ≤ a.len ∧ a.len ≤ 16384
instance (a : Arr) : Decidable (shapedP a) := by unfold shapedP; infer_instance
def up4 (n : Int) : Int := (n + 3) / 4 * 4
def room (a : Arr) : Int := if shapedP a then up4 (a.elem * a.len) else 0
def railBytes (a : Arr) : Int := if a.kind = 0 then room a else 0
def railSum : List Arr → Int
  | [] => 0
  | a :: l => railBytes a + railSum l
def opsSum : List Blk → Nat
  | [] => 0
  | b :: l => b.ops.length + opsSum l
def greatP (p : Ir) : Prop := 1048576 < p.temps ∨ 1048576 < (p.arrays.length : Int) ∨ 1048576 < (p.blocks.length : Int) ∨ 1048576 < (opsSum p.blocks : Int) ∨ 65536 < max p.out 0 + railSum p.arrays
instance (p : Ir) : Decidable (greatP p) := by unfold greatP; infer_instance
theorem room_range (a : Arr) : 0 ≤ room a ∧ room a ≤ 65536 := by
  unfold room up4
  split
  · rename_i h
    obtain ⟨h1, h2, h3⟩ := h
    rcases h1 with h1 | h1 <;> rw [h1] <;> omega
  · omega
theorem railBytes_range (a : Arr) : 0 ≤ railBytes a ∧ railBytes a ≤ 65536 := by
  have := room_range a
  unfold railBytes; split <;> omega
theorem railSum_append : ∀ l m : List Arr, railSum (l ++ m) = railSum l + railSum m
  | [], m => by simp [railSum]
  | a :: l, m => by rw [List.cons_append, railSum, railSum, railSum_append l m]; omega
theorem railSum_nonneg : ∀ l : List Arr, 0 ≤ railSum l
  | [] => by simp [railSum]
  | a :: l => by have := railBytes_range a; have := railSum_nonneg l; rw [railSum]; omega
theorem railSum_take (l : List Arr) (k : Nat) : railSum (l.take k) ≤ railSum l := by
  have h : railSum (l.take k ++ l.drop k) = _ := railSum_append _ _
  rw [List.take_append_drop] at h
  have := railSum_nonneg (l.drop k)
  omega
theorem opsSum_append : ∀ l m : List Blk, opsSum (l ++ m) = opsSum l + opsSum m
  | [], m => by simp [opsSum]
  | a :: l, m => by rw [List.cons_append, opsSum, opsSum, opsSum_append l m]; omega
theorem opsSum_take (l : List Blk) (k : Nat) : opsSum (l.take k) ≤ opsSum l := by
  have h : opsSum (l.take k ++ l.drop k) = _ := opsSum_append _ _
  rw [List.take_append_drop] at h
  omega
/-- May an array be, and where does the output's next one begin? -/
def arrStep (inp out en : Int) (a : Arr) : Option Int :=
  if ¬ shapedP a then none
  else if a.kind = 0 then (if a.off = 0 then some en else none)
  else if a.kind = 1 then (if 0 ≤ a.off ∧ a.off ≤ inp - a.elem * a.len ∧ a.off % 4 = 0 then some en else none)
  else if a.kind = 2 then (if en ≤ a.off ∧ a.off ≤ out - a.elem * a.len ∧ a.off % 4 = 0 then some (up4 (a.off + a.elem * a.len)) else none)
  else none
def arrEnd (inp out : Int) : List Arr → Int → Option Int
  | [], en => some en
  | a :: l, en => match arrStep inp out en a with
    | none => none
    | some e => arrEnd inp out l e
theorem arrEnd_append (inp out : Int) : ∀ (l m : List Arr) (en : Int), arrEnd inp out (l ++ m) en = match arrEnd inp out l en with
    | none => none
    | some e => arrEnd inp out m e
  | [], m, en => rfl
  | a :: l, m, en => by
    rw [List.cons_append, arrEnd, arrEnd]
    cases arrStep inp out en a with
    | none => rfl
    | some e => exact arrEnd_append inp out l m e
/-- An operation's form: does it make a temp, how many does it read, its number's bound, is there one? -/
def fDst (k : Int) : Bool := decide (1 ≤ k ∧ k ≤ 18)
def fSrc (k : Int) : Nat := if k = 2 ∨ k = 10 ∨ k = 11 ∨ k = 12 ∨ k = 13 ∨ k = 18 then 1 else if k = 17 then 3 else if 3 ≤ k ∧ k ≤ 19 then 2 else 0
def fMost (k : Int) : Int := if k = 1 then 4294967295 else if 11 ≤ k ∧ k ≤ 13 then 31 else if k = 18 ∨ k = 19 then 1048576 else 0
def fOk (k : Int) : Bool := decide (1 ≤ k ∧ k ≤ 19)
def isTemp (p : Ir) (t : Int) : Prop := 0 ≤ t ∧ t < p.temps
instance (p : Ir) (t : Int) : Decidable (isTemp p t) := by unfold isTemp; infer_instance
def fieldP (p : Ir) (there : Bool) (t : Int) : Prop := if there then isTemp p t else t = 0
instance (p : Ir) (b : Bool) (t : Int) : Decidable (fieldP p b t) := by unfold fieldP; infer_instance
def arrNone : Arr := ⟨0, 0, 0, 0⟩
def opP (p : Ir) (o : Opn) : Prop := fOk o.kind = true ∧ (0 ≤ o.imm ∧ o.imm ≤ fMost o.kind) ∧ fieldP p (fDst o.kind) o.dst ∧ fieldP p (decide (0 < fSrc o.kind)) o.a ∧ fieldP p (decide (1 < fSrc o.kind)) o.b ∧ fieldP p (decide (2 < fSrc o.kind)) o.c ∧
  (o.kind = 18 ∨ o.kind = 19 → o.imm < p.arrays.length ∧ (o.kind = 18 ∨ (p.arrays.getD o.imm.toNat arrNone).kind ≠ 1))
instance (p : Ir) (o : Opn) : Decidable (opP p o) := by unfold opP; infer_instance
def labelP (p : Ir) (n : Int) : Prop := -1 ≤ n ∧ n < p.blocks.length
instance (p : Ir) (n : Int) : Decidable (labelP p n) := by unfold labelP; infer_instance
def trmP (p : Ir) (t : Trm) : Prop := (t.kind = 1 ∧ t.a = 0 ∧ t.no = 0 ∧ labelP p t.yes) ∨ (t.kind = 2 ∧ isTemp p t.a ∧ labelP p t.yes ∧ labelP p t.no) ∨ (t.kind = 3 ∧ t.a = 0 ∧ t.yes = 0 ∧ t.no = 0)
instance (p : Ir) (t : Trm) : Decidable (trmP p t) := by unfold trmP; infer_instance
def blkP (p : Ir) (b : Blk) : Prop := (∀ o ∈ b.ops, opP p o) ∧ trmP p b.term
instance (p : Ir) (b : Blk) : Decidable (blkP p b) := by unfold blkP; infer_instance
def headP (p : Ir) : Prop := (0 ≤ p.inp ∧ p.inp ≤ 65536 ∧ p.inp % 4 = 0) ∧ (0 ≤ p.out ∧ p.out ≤ 65536 ∧ p.out % 4 = 0) ∧ 0 ≤ p.temps ∧ p.blocks ≠ []
instance (p : Ir) : Decidable (headP p) := by unfold headP; infer_instance
def mayP (p : Ir) : Prop := headP p ∧ (arrEnd p.inp p.out p.arrays 0).isSome = true ∧ ∀ b ∈ p.blocks, blkP p b
instance (p : Ir) : Decidable (mayP p) := by unfold mayP; infer_instance
/-- The error of a program of blocks; 0: it may be. -/
def irErr (p : Ir) : Int := if greatP p then 18 else if mayP p then 0 else 2
end Go.Proofs.Ytfadeipdepamlaa
namespace Go.Proofs.Ytfadeipdepamlaa
open Go.RowKit
set_option linter.unusedVariables false
def trmNone : Trm := ⟨0, 0, 0, 0⟩
def blkNone : Blk := ⟨[], trmNone⟩
def opNone : Opn := ⟨0, 0, 0, 0, 0, 0⟩
theorem getD_some {T : Type} (l : List T) (k : Nat) (d : T) (h : k < l.length) : l[k]? = some (l.getD k d) := by
  rw [List.getD_eq_getElem?_getD, List.getElem?_eq_getElem h]; rfl
theorem getD_memI {T : Type} (l : List T) (k : Nat) (d : T) (h : k < l.length) : l.getD k d ∈ l := by
  rw [List.getD_eq_getElem?_getD, List.getElem?_eq_getElem h]; exact List.getElem_mem h
theorem take_succ_getD {T : Type} (l : List T) (k : Nat) (d : T) (h : k < l.length) : l.take (k + 1) = l.take k ++ [l.getD k d] := by
  rw [List.take_succ_eq_append_getElem h, List.getD_eq_getElem?_getD, List.getElem?_eq_getElem h]; rfl
/-- A slice that reads as a list is a slice of that length. -/
theorem SlRep.form {T : Type} {E : Enc T} {w : World} {B : Nat} {v : Value} {l : List T} (h : SlRep E w B v l) : ∃ A c, v = .slice A l.length c ∧ l.length ≤ c := by
  obtain ⟨A, c, e, hc, _⟩ := h
  exact ⟨A, c, e, hc⟩
theorem arr_at {w : World} {B : Nat} {A : Option Addr} {c : Nat} {l : List Arr} (h : SlRep arrEnc w B (.slice A l.length c) l) (k : Nat) (hk : k < l.length) :
    ∃ b off, A = some ⟨b, off, none⟩ ∧ b < B ∧ w.cell? ⟨b, off + k * 4, none⟩ = some (.int .i64 (l.getD k arrNone).elem) ∧ w.cell? ⟨b, off + k * 4 + 1, none⟩ = some (.int .i64 (l.getD k arrNone).len) ∧
      w.cell? ⟨b, off + k * 4 + 2, none⟩ = some (.int .i64 (l.getD k arrNone).kind) ∧ w.cell? ⟨b, off + k * 4 + 3, none⟩ = some (.int .i64 (l.getD k arrNone).off) := by
  obtain ⟨A', c', e, _, h⟩ := h
  injection e with e
  subst e
  obtain ⟨b, off, es, e1, h1, h2, h3⟩ := h k _ (getD_some l k arrNone hk)
  have h2 : es = arrCells (l.getD k arrNone) := h2
  subst h2
  exact ⟨b, off, e1, h1, h3 0 _ rfl, h3 1 _ rfl, h3 2 _ rfl, h3 3 _ rfl⟩
theorem op_at {w : World} {B : Nat} {A : Option Addr} {c : Nat} {l : List Opn} (h : SlRep opEnc w B (.slice A l.length c) l) (k : Nat) (hk : k < l.length) :
    ∃ b off, A = some ⟨b, off, none⟩ ∧ b < B ∧ w.cell? ⟨b, off + k * 6, none⟩ = some (.int .i64 (l.getD k opNone).kind) ∧ w.cell? ⟨b, off + k * 6 + 1, none⟩ = some (.int .i64 (l.getD k opNone).dst) ∧
      w.cell? ⟨b, off + k * 6 + 2, none⟩ = some (.int .i64 (l.getD k opNone).a) ∧ w.cell? ⟨b, off + k * 6 + 3, none⟩ = some (.int .i64 (l.getD k opNone).b) ∧
      w.cell? ⟨b, off + k * 6 + 4, none⟩ = some (.int .i64 (l.getD k opNone).c) ∧ w.cell? ⟨b, off + k * 6 + 5, none⟩ = some (.int .i64 (l.getD k opNone).imm) := by
  obtain ⟨A', c', e, _, h⟩ := h
  injection e with e
  subst e
  obtain ⟨b, off, es, e1, h1, h2, h3⟩ := h k _ (getD_some l k opNone hk)
  have h2 : es = opCells (l.getD k opNone) := h2
  subst h2
  exact ⟨b, off, e1, h1, h3 0 _ rfl, h3 1 _ rfl, h3 2 _ rfl, h3 3 _ rfl, h3 4 _ rfl, h3 5 _ rfl⟩
theorem blk_at {w : World} {B : Nat} {A : Option Addr} {c : Nat} {l : List Blk} (h : SlRep blkEnc w B (.slice A l.length c) l) (k : Nat) (hk : k < l.length) :
    ∃ b off, A = some ⟨b, off, none⟩ ∧ b < B ∧ ∃ OA oc, SlRep opEnc w B (.slice OA (l.getD k blkNone).ops.length oc) (l.getD k blkNone).ops ∧ (l.getD k blkNone).ops.length ≤ oc ∧
      w.cell? ⟨b, off + k * 5, none⟩ = some (.slice OA (l.getD k blkNone).ops.length oc) ∧ w.cell? ⟨b, off + k * 5 + 1, none⟩ = some (.int .i64 (l.getD k blkNone).term.kind) ∧
      w.cell? ⟨b, off + k * 5 + 2, none⟩ = some (.int .i64 (l.getD k blkNone).term.a) ∧ w.cell? ⟨b, off + k * 5 + 3, none⟩ = some (.int .i64 (l.getD k blkNone).term.yes) ∧
      w.cell? ⟨b, off + k * 5 + 4, none⟩ = some (.int .i64 (l.getD k blkNone).term.no) := by
  obtain ⟨A', c', e, _, h⟩ := h
  injection e with e
  subst e
  obtain ⟨b, off, es, e1, h1, h2, h3⟩ := h k _ (getD_some l k blkNone hk)
  have h2 : ∃ v, es = v :: trmCells (l.getD k blkNone).term ∧ SlRep opEnc w B v (l.getD k blkNone).ops := h2
  obtain ⟨v, rfl, hv⟩ := h2
  obtain ⟨OA, oc, rfl, hoc⟩ := hv.form
  exact ⟨b, off, e1, h1, OA, oc, hv, hoc, h3 0 _ rfl, h3 1 _ rfl, h3 2 _ rfl, h3 3 _ rfl, h3 4 _ rfl⟩
theorem opsSum_step (l : List Blk) (k : Nat) (h : k < l.length) : opsSum (l.take (k + 1)) = opsSum (l.take k) + (l.getD k blkNone).ops.length := by
  rw [take_succ_getD l k blkNone h, opsSum_append]; rfl
theorem railSum_step (l : List Arr) (k : Nat) (h : k < l.length) : railSum (l.take (k + 1)) = railSum (l.take k) + railBytes (l.getD k arrNone) := by
  rw [take_succ_getD l k arrNone h, railSum_append]
  show _ = _ + _
  congr 1
  show railBytes _ + 0 = _
  omega
theorem arrEnd_step (inp out : Int) (l : List Arr) (k : Nat) (h : k < l.length) (e : Int) (he : arrEnd inp out (l.take k) 0 = some e) : arrEnd inp out (l.take (k + 1)) 0 = arrStep inp out e (l.getD k arrNone) := by
  rw [take_succ_getD l k arrNone h, arrEnd_append, he]
  show arrEnd inp out [_] e = _
  unfold arrEnd
  cases arrStep inp out e (l.getD k arrNone) <;> rfl
theorem arrEnd_fail (inp out : Int) (l : List Arr) (k : Nat) (he : arrEnd inp out (l.take k) 0 = none) : arrEnd inp out l 0 = none := by
  have h := arrEnd_append inp out (l.take k) (l.drop k) 0
  rw [List.take_append_drop, he] at h
  exact h
theorem great_ops (p : Ir) (k : Nat) (h : 1048576 < (opsSum (p.blocks.take k) : Int)) : greatP p := by
  have := opsSum_take p.blocks k
  unfold greatP; omega
theorem great_rail (p : Ir) (k : Nat) (h : 65536 < max p.out 0 + railSum (p.arrays.take k)) : greatP p := by
  have := railSum_take p.arrays k
  unfold greatP; omega
end Go.Proofs.Ytfadeipdepamlaa
namespace Go.Proofs.Ytfadeipdepamlaa
open Go.RowKit
set_option linter.unusedVariables false
theorem irErr_ok {p : Ir} (h : irErr p = 0) : ¬ greatP p ∧ mayP p := by
  unfold irErr at h
  by_cases hg : greatP p
  · rw [if_pos hg] at h; exact absurd h (by decide)
  · rw [if_neg hg] at h
    refine ⟨hg, ?_⟩
    by_cases hm : mayP p
    · exact hm
    · rw [if_neg hm] at h; exact absurd h (by decide)
end Go.Proofs.Ytfadeipdepamlaa
namespace Go.Proofs.Ytfadeipdepamlaa
open Go.ChangeShapes Go.WideShapes Go.ChangeAt Go.RowKit
theorem opens_array {P : Program} {W : World} {B : Nat} {t e : TypeId} {n : Nat} (ht : P.underlying t = some (.array n e)) (R : List Value → Prop) (he : Opens P W B e R) :
    Opens P W B t (fun cs => cs.length = P.cellsOf t ∧ ∀ i, i < n → R ((cs.drop (i * P.cellsOf e)).take (P.cellsOf e))) := by
  refine ⟨?_⟩
  intro H enc fuel cs x h hp hw
  obtain ⟨xs, m, _, rfl, h2, h3, h4⟩ := DataW.trod_array ht h
  refine ⟨h2, fun i hi => ?_⟩
  have hi' : i < xs.length := by omega
  have hx := h4 i hi
  have hxi : xs[i]? = some xs[i] := List.getElem?_eq_getElem hi'
  rw [hxi] at hx
  refine he.run enc m _ xs[i] hx (fun p hpm => hp p (List.mem_flatMap.2 ⟨xs[i], List.getElem_mem hi', hpm⟩)) (fun k hk => hw k ?_)
  simp only [DataW.weights, ht]
  exact weightsAll_mem e _ i xs[i].1 (by simp [hxi]) k hk
theorem cells_int4 : Try.prog.cellsOf 35 = 4 ∧ Try.prog.cellsOf 3 = 1 := by constructor <;> kernel_rfl
theorem opens_four {W : World} {B : Nat} : Opens Try.prog W B 35 (fun cs => ∃ a b c d, cs = [.int .i64 a, .int .i64 b, .int .i64 c, .int .i64 d] ∧ IntR a ∧ IntR b ∧ IntR c ∧ IntR d) := by
  refine (opens_array (n := 4) Try.underlying35 _ (opens_int (k := .i64) Try.underlying3)).mono fun cs ⟨hl, h⟩ => ?_
  obtain ⟨c4, c1⟩ := cells_int4
  rw [c4] at hl
  rw [c1] at h
  match cs, hl with
  | [p, q, r, s], _ =>
    obtain ⟨a, ha, wa⟩ := h 0 (by omega)
    obtain ⟨b, hb, wb⟩ := h 1 (by omega)
    obtain ⟨c, hc, wc⟩ := h 2 (by omega)
    obtain ⟨d, hd, wd⟩ := h 3 (by omega)
    simp at ha hb hc hd
    subst ha hb hc hd
    exact ⟨a, b, c, d, rfl, intR_wf wa, intR_wf wb, intR_wf wc, intR_wf wd⟩
set_option maxRecDepth 100000 in
theorem open_four {W : World} {H : Type} {enc : TypeId × Value → H} {v : Value} {d : DataW H} {ps : List MemPlace} {base : Nat} (hval : Value.okWide Try.prog W .any base 35 v)
    (hd : DataW.Trod enc Try.prog W 0 (fun _ => true) true 35 v d ps) (hlt : ∀ p ∈ ps, p.block < W.heap.size) (hw : ∀ n ∈ d.weights Try.prog 35, n ≤ reachBytes) :
    ∃ a b c e : Int, v = .agg #[.int .i64 a, .int .i64 b, .int .i64 c, .int .i64 e] ∧ IntR a ∧ IntR b ∧ IntR c ∧ IntR e := by
  have hval2 := hval
  simp only [Value.okWide, Try.underlying35] at hval2
  obtain ⟨cs, rfl, hsz, _⟩ := hval2
  obtain ⟨a, b, c, e, he, h0⟩ := (opens_four (W := W) (B := W.heap.size)).arg hd hlt hw
  refine ⟨a, b, c, e, ?_, h0⟩
  obtain ⟨l⟩ := cs
  simp only [Value.cells] at he
  rw [he]
set_option maxRecDepth 100000 in
theorem open_ops {W : World} {H : Type} {enc : TypeId × Value → H} {v : Value} {d : DataW H} {ps : List MemPlace} {base : Nat} (hval : Value.okWide Try.prog W .any base 34 v)
    (hd : DataW.Trod enc Try.prog W 0 (fun _ => true) true 34 v d ps) (hlt : ∀ p ∈ ps, p.block < W.heap.size) (hw : ∀ n ∈ d.weights Try.prog 34, n ≤ reachBytes) :
    ∃ l : List Opn, SlRep opEnc W W.heap.size v l ∧ ∀ o ∈ l, o.fine := by
  have h := (opens_slice Try.underlying34 _ (opens_op (W := W) (B := W.heap.size))).arg hd hlt hw
  obtain ⟨v', l, hv, hl, hg, hb⟩ := slRep_of (E := opEnc) (G := Opn.fine) op_cells (by decide) (fun es ⟨e, h, hg⟩ => ⟨e, h, hg⟩) h
  have hval2 := hval
  simp only [Value.okWide, Try.underlying34] at hval2
  refine ⟨l, ?_, hg⟩
  have hc : v.cells.toList = [v] := by
    cases v with
    | agg cs => exfalso; simp [Cell.okWide, Cell.ok, Try.underlying34] at hval2
    | _ => rfl
  rw [hc] at hv
  injection hv with hv
  rw [hv]
  exact hl
end Go.Proofs.Ytfadeipdepamlaa
