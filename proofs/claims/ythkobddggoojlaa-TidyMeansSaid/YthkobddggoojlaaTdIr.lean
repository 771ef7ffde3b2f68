/- Parts of a proof. No condition but those that each theorem names. -/
import Derived.WalkKit
import Derived.OpenShut
import Derived.Below
import Derived.Lib.Hide
import Derived.Laws.OwnMore
import Derived.Deep.QuietTactic
import Derived.Deep.AppendLies
import Derived.ProofKit
import Derived.SizedLaws
import Derived.Test.YthkobddggoojlaaProg
import Derived.Test.YthkobddggoojlaaTdG0e0
import Derived.Test.YthkobddggoojlaaTdG0e1
namespace Go.Proofs.Ythkobddggoojlaa
open Go.ChangeShapes Go.WideShapes Go.ChangeAt Go.RowKit
set_option linter.unusedVariables false

structure Arr where
  elem : Int
  len : Int
  kind : Int
  off : Int
structure Opn where
  kind : Int
  dst : Int
  a : Int
  b : Int
  c : Int
  imm : Int
structure Trm where
  kind : Int
  a : Int
  yes : Int
  no : Int
structure Blk where
  ops : List Opn
  term : Trm
structure Ir where
  temps : Int
  arrays : List Arr
  blocks : List Blk
  inp : Int
  out : Int
def arrCells (x : Arr) : List Value := [.int .i64 x.elem, .int .i64 x.len, .int .i64 x.kind, .int .i64 x.off]
def opCells (x : Opn) : List Value := [.int .i64 x.kind, .int .i64 x.dst, .int .i64 x.a, .int .i64 x.b, .int .i64 x.c, .int .i64 x.imm]
def trmCells (x : Trm) : List Value := [.int .i64 x.kind, .int .i64 x.a, .int .i64 x.yes, .int .i64 x.no]
def arrEnc : Enc Arr := flatEnc 4 arrCells (fun _ => rfl)
def opEnc : Enc Opn := flatEnc 6 opCells (fun _ => rfl)
def blkEnc : Enc Blk where
  size := 5
  rep w B es t := ∃ v, es = v :: trmCells t.term ∧ SlRep opEnc w B v t.ops
  len h := by obtain ⟨v, rfl, _⟩ := h; rfl
  keep h hB hk := by obtain ⟨v, e, h⟩ := h; exact ⟨v, e, h.keep hB hk⟩
/-- A program that these two slices and numbers make. -/
def irVal (p : Ir) (av bv : Value) : Value := .agg #[.int .i64 p.temps, av, bv, .int .i64 p.inp, .int .i64 p.out]
def IrRep (w : World) (B : Nat) (p : Ir) (av bv : Value) : Prop := SlRep arrEnc w B av p.arrays ∧ SlRep blkEnc w B bv p.blocks
theorem IrRep.below {w w' : World} {B C : Nat} {p : Ir} {av bv : Value} (h : IrRep w B p av bv) (hb : Below C w w') (hB : B ≤ C) : IrRep w' B p av bv := ⟨h.1.below hb hB, h.2.below hb hB⟩
theorem IrRep.next {w w' : World} {p : Ir} {av bv : Value} (h : IrRep w w.heap.size p av bv) (hb : Below w.heap.size w w') : IrRep w' w'.heap.size p av bv := ⟨h.1.next hb, h.2.next hb⟩
theorem arr_cells : Try.prog.cellsOf 59 = 4 := by kernel_rfl
theorem op_cells : Try.prog.cellsOf 46 = 6 := by kernel_rfl
theorem trm_cells : Try.prog.cellsOf 38 = 4 := by kernel_rfl
theorem ops_cells : Try.prog.cellsOf 36 = 1 := by kernel_rfl
theorem blk_cells : Try.prog.cellsOf 40 = 5 := by kernel_rfl
theorem ir_cells : Try.prog.cellsOf 25 = 5 := by kernel_rfl
theorem int_cells : Try.prog.cellsOf 3 = 1 := by kernel_rfl
theorem arrs_cells : Try.prog.cellsOf 22 = 1 := by kernel_rfl
theorem blks_cells : Try.prog.cellsOf 23 = 1 := by kernel_rfl
def IntR (n : Int) : Prop := -9223372036854775808 ≤ n ∧ n ≤ 9223372036854775807
theorem intR_wf {n : Int} (h : (Lit.int .i64 n).wf = true) : IntR n := bounds_i64 h
def Arr.fine (x : Arr) : Prop := IntR x.elem ∧ IntR x.len ∧ IntR x.kind ∧ IntR x.off
def Opn.fine (x : Opn) : Prop := IntR x.kind ∧ IntR x.dst ∧ IntR x.a ∧ IntR x.b ∧ IntR x.c ∧ IntR x.imm
def Trm.fine (x : Trm) : Prop := IntR x.kind ∧ IntR x.a ∧ IntR x.yes ∧ IntR x.no
/-- What is known of any program that comes in. -/
def Blk.fine (x : Blk) : Prop := x.ops.length ≤ 4398046511104 ∧ (∀ o ∈ x.ops, o.fine) ∧ x.term.fine
def Ir.fine (p : Ir) : Prop := IntR p.temps ∧ IntR p.inp ∧ IntR p.out ∧ p.arrays.length ≤ 4398046511104 ∧ p.blocks.length ≤ 4398046511104 ∧ (∀ x ∈ p.arrays, x.fine) ∧ (∀ x ∈ p.blocks, x.fine)
theorem opens_arr {W : World} {B : Nat} : Opens Try.prog W B 59 (fun cs => ∃ e : Arr, cs = arrCells e ∧ e.fine) := by
  refine (opens_flat Try.underlying59 (by kernel_rfl) (fun _ v => ∃ n, v = .int .i64 n ∧ (Lit.int .i64 n).wf = true) ?_).mono ?_
  · intro i f hf
    match i, hf with
    | 0, hf | 1, hf | 2, hf | 3, hf => simp at hf; subst hf; exact opens_int1 Try.underlying3
    | i + 4, hf => simp at hf
  · intro cs ⟨hl, hf⟩
    rw [arr_cells] at hl
    match cs, hl with
    | [x0, x1, x2, x3], _ =>
      obtain ⟨a, rfl, h0⟩ := hf 0 _ (by decide) rfl
      obtain ⟨b, rfl, h1⟩ := hf 1 _ (by decide) rfl
      obtain ⟨c, rfl, h2⟩ := hf 2 _ (by decide) rfl
      obtain ⟨d, rfl, h3⟩ := hf 3 _ (by decide) rfl
      exact ⟨⟨a, b, c, d⟩, rfl, intR_wf h0, intR_wf h1, intR_wf h2, intR_wf h3⟩
theorem opens_trm {W : World} {B : Nat} : Opens Try.prog W B 38 (fun cs => ∃ e : Trm, cs = trmCells e ∧ e.fine) := by
  refine (opens_flat Try.underlying38 (by kernel_rfl) (fun _ v => ∃ n, v = .int .i64 n ∧ (Lit.int .i64 n).wf = true) ?_).mono ?_
  · intro i f hf
    match i, hf with
    | 0, hf | 1, hf | 2, hf | 3, hf => simp at hf; subst hf; exact opens_int1 Try.underlying3
    | i + 4, hf => simp at hf
  · intro cs ⟨hl, hf⟩
    rw [trm_cells] at hl
    match cs, hl with
    | [x0, x1, x2, x3], _ =>
      obtain ⟨a, rfl, h0⟩ := hf 0 _ (by decide) rfl
      obtain ⟨b, rfl, h1⟩ := hf 1 _ (by decide) rfl
      obtain ⟨c, rfl, h2⟩ := hf 2 _ (by decide) rfl
      obtain ⟨d, rfl, h3⟩ := hf 3 _ (by decide) rfl
      exact ⟨⟨a, b, c, d⟩, rfl, intR_wf h0, intR_wf h1, intR_wf h2, intR_wf h3⟩
theorem opens_op {W : World} {B : Nat} : Opens Try.prog W B 46 (fun cs => ∃ e : Opn, cs = opCells e ∧ e.fine) := by
  refine (opens_flat Try.underlying46 (by kernel_rfl) (fun _ v => ∃ n, v = .int .i64 n ∧ (Lit.int .i64 n).wf = true) ?_).mono ?_
  · intro i f hf
    match i, hf with
    | 0, hf | 1, hf | 2, hf | 3, hf | 4, hf | 5, hf => simp at hf; subst hf; exact opens_int1 Try.underlying3
    | i + 6, hf => simp at hf
  · intro cs ⟨hl, hf⟩
    rw [op_cells] at hl
    match cs, hl with
    | [x0, x1, x2, x3, x4, x5], _ =>
      obtain ⟨a, rfl, h0⟩ := hf 0 _ (by decide) rfl
      obtain ⟨b, rfl, h1⟩ := hf 1 _ (by decide) rfl
      obtain ⟨c, rfl, h2⟩ := hf 2 _ (by decide) rfl
      obtain ⟨d, rfl, h3⟩ := hf 3 _ (by decide) rfl
      obtain ⟨e, rfl, h4⟩ := hf 4 _ (by decide) rfl
      obtain ⟨f, rfl, h5⟩ := hf 5 _ (by decide) rfl
      exact ⟨⟨a, b, c, d, e, f⟩, rfl, intR_wf h0, intR_wf h1, intR_wf h2, intR_wf h3, intR_wf h4, intR_wf h5⟩
/-- A slice's cells, as a list of its elements. -/
theorem slRep_of {P : Program} {W : World} {B : Nat} {e : TypeId} {T : Type} {E : Enc T} {G : T → Prop} {R : List Value → Prop} {cs : List Value} (hsz : P.cellsOf e = E.size) (hpos : 0 < E.size) (hR : ∀ es, R es → ∃ t, E.rep W B es t ∧ G t) (h : SliceCells P W B e R cs) :
    ∃ v l, cs = [v] ∧ SlRep E W B v l ∧ (∀ t ∈ l, G t) ∧ l.length * P.bytesOf e ≤ reachBytes := by
  obtain ⟨A, len, cap, rfl, h1, h2, h3, h4, h5, h6⟩ := h
  have hx : ∀ i : Fin len, ∃ t : T, G t ∧ ∃ a es, A = some a ∧ E.rep W B es t ∧ ∀ j u, es[j]? = some u → W.cell? (a.add (i * E.size + j)) = some u := by
    intro i
    obtain ⟨a, es, ha, _, hr, hc⟩ := h6 i i.2
    obtain ⟨t, ht, hg⟩ := hR es hr
    rw [hsz] at hc
    exact ⟨t, hg, a, es, ha, ht, hc⟩
  obtain ⟨f, hf⟩ := Classical.axiomOfChoice hx
  refine ⟨_, List.ofFn f, rfl, ⟨A, cap, by simp, by simpa using h1, fun k t hk => ?_⟩, fun t ht => ?_, ?_⟩
  · rw [List.getElem?_ofFn] at hk
    split at hk
    · rename_i hlt
      injection hk with hk
      subst hk
      obtain ⟨_, a, es, ha, hr, hc⟩ := hf ⟨k, hlt⟩
      rw [hsz] at h5
      obtain ⟨b, off, rfl, hb⟩ := h5 (Nat.mul_pos (by omega) hpos)
      injection ha with ha
      subst ha
      refine ⟨b, off, es, rfl, hb, hr, fun j u hu => ?_⟩
      have := hc j u hu
      rw [show ((⟨b, off, none⟩ : Addr).add (k * E.size + j)) = ⟨b, off + k * E.size + j, none⟩ by
        unfold Addr.add; split
        · rename_i h; simp
        · simp [← Nat.add_assoc]] at this
      exact this
    · cases hk
  · obtain ⟨i, rfl⟩ := (List.mem_ofFn).1 ht
    exact (hf i).1
  · rw [List.length_ofFn]
    exact Nat.le_trans (Nat.mul_le_mul_right _ h1) h3
def opsRs (W : World) (B : Nat) (i : Nat) : List Value → Prop := if i = 0 then SliceCells Try.prog W B 46 (fun cs => ∃ e : Opn, cs = opCells e ∧ e.fine) else (fun cs => ∃ e : Trm, cs = trmCells e ∧ e.fine)
theorem op_bytes : Try.prog.bytesOf 46 = 48 := by kernel_rfl
theorem arr_bytes : Try.prog.bytesOf 59 = 32 := by kernel_rfl
theorem blk_bytes : Try.prog.bytesOf 40 = 56 := by kernel_rfl
set_option maxRecDepth 100000 in
theorem opens_blk {W : World} {B : Nat} : Opens Try.prog W B 40 (fun cs => ∃ e : Blk, blkEnc.rep W B cs e ∧ e.fine) := by
  refine (opens_struct Try.underlying40 (opsRs W B) ?_).mono ?_
  · intro i f hf
    match i, hf with
    | 0, hf => simp at hf; subst hf; exact opens_slice Try.underlying36 _ opens_op
    | 1, hf => simp at hf; subst hf; exact opens_trm
    | i + 2, hf => simp at hf
  · intro cs ⟨hl, hf⟩
    rw [blk_cells] at hl
    match cs, hl with
    | [x0, x1, x2, x3, x4], _ =>
      have h0 : SliceCells Try.prog W B 46 (fun cs => ∃ e : Opn, cs = opCells e ∧ e.fine) (([x0, x1, x2, x3, x4].drop 0).take (Try.prog.cellsOf 36)) := hf 0 _ rfl
      have h1 : ∃ e : Trm, (([x0, x1, x2, x3, x4].drop 1).take (Try.prog.cellsOf 38)) = trmCells e ∧ e.fine := hf 1 _ rfl
      rw [ops_cells] at h0
      rw [trm_cells] at h1
      obtain ⟨t, ht, htf⟩ := h1
      obtain ⟨v, l, hv, hl, hg, hb⟩ := slRep_of (E := opEnc) (G := Opn.fine) op_cells (by decide) (fun es ⟨e, h, hg⟩ => ⟨e, h, hg⟩) h0
      refine ⟨⟨l, t⟩, ⟨v, ?_, hl⟩, ?_, hg, htf⟩
      · have e1 : [x0] = [v] := hv
        have e2 : [x1, x2, x3, x4] = trmCells t := ht
        injection e1 with e1
        rw [e1, e2]
      · rw [op_bytes] at hb
        unfold reachBytes at hb
        show l.length ≤ _
        omega
def irRs (W : World) (B : Nat) (i : Nat) : List Value → Prop :=
  if i = 1 then SliceCells Try.prog W B 59 (fun cs => ∃ e : Arr, cs = arrCells e ∧ e.fine) else if i = 2 then SliceCells Try.prog W B 40 (fun cs => ∃ e : Blk, blkEnc.rep W B cs e ∧ e.fine) else fun cs => ∃ n, cs = [.int .i64 n] ∧ (Lit.int .i64 n).wf = true
set_option maxRecDepth 100000 in
theorem opens_ir {W : World} {B : Nat} : Opens Try.prog W B 25 (fun cs => ∃ (p : Ir) (av bv : Value), cs = (irVal p av bv).cells.toList ∧ IrRep W B p av bv ∧ p.fine) := by
  refine (opens_struct Try.underlying25 (irRs W B) ?_).mono ?_
  · intro i f hf
    match i, hf with
    | 0, hf | 3, hf | 4, hf => simp at hf; subst hf; exact opens_int Try.underlying3
    | 1, hf => simp at hf; subst hf; exact opens_slice Try.underlying22 _ opens_arr
    | 2, hf => simp at hf; subst hf; exact opens_slice Try.underlying23 _ opens_blk
    | i + 5, hf => simp at hf
  · intro cs ⟨hl, hf⟩
    rw [ir_cells] at hl
    match cs, hl with
    | [x0, x1, x2, x3, x4], _ =>
      have h0 : ∃ n, (([x0, x1, x2, x3, x4].drop 0).take (Try.prog.cellsOf 3)) = [.int .i64 n] ∧ (Lit.int .i64 n).wf = true := hf 0 _ rfl
      have h1 : SliceCells Try.prog W B 59 (fun cs => ∃ e : Arr, cs = arrCells e ∧ e.fine) (([x0, x1, x2, x3, x4].drop 1).take (Try.prog.cellsOf 22)) := hf 1 _ rfl
      have h2 : SliceCells Try.prog W B 40 (fun cs => ∃ e : Blk, blkEnc.rep W B cs e ∧ e.fine) (([x0, x1, x2, x3, x4].drop 2).take (Try.prog.cellsOf 23)) := hf 2 _ rfl
      have h3 : ∃ n, (([x0, x1, x2, x3, x4].drop 3).take (Try.prog.cellsOf 3)) = [.int .i64 n] ∧ (Lit.int .i64 n).wf = true := hf 3 _ rfl
      have h4 : ∃ n, (([x0, x1, x2, x3, x4].drop 4).take (Try.prog.cellsOf 3)) = [.int .i64 n] ∧ (Lit.int .i64 n).wf = true := hf 4 _ rfl
      rw [int_cells] at h0 h3 h4
      rw [arrs_cells] at h1
      rw [blks_cells] at h2
      obtain ⟨n0, e0, w0⟩ := h0
      obtain ⟨n3, e3, w3⟩ := h3
      obtain ⟨n4, e4, w4⟩ := h4
      obtain ⟨av, al, ea, ha, ga, ba⟩ := slRep_of (E := arrEnc) (G := Arr.fine) arr_cells (by decide) (fun es ⟨e, h, hg⟩ => ⟨e, h, hg⟩) h1
      obtain ⟨bv, bl, eb, hb, gb, bb⟩ := slRep_of (E := blkEnc) (G := Blk.fine) blk_cells (by decide) (fun es ⟨e, h, hg⟩ => ⟨e, h, hg⟩) h2
      have f0 : [x0] = [Value.int .i64 n0] := e0
      have fa : [x1] = [av] := ea
      have fb : [x2] = [bv] := eb
      have f3 : [x3] = [Value.int .i64 n3] := e3
      have f4 : [x4] = [Value.int .i64 n4] := e4
      injection f0 with f0; injection fa with fa; injection fb with fb; injection f3 with f3; injection f4 with f4
      clear e0 ea eb e3 e4 hf hl
      subst f0 fa fb f3 f4
      refine ⟨⟨n0, al, bl, n3, n4⟩, x1, x2, rfl, ⟨ha, hb⟩, intR_wf w0, intR_wf w3, intR_wf w4, ?_, ?_, ga, gb⟩
      · rw [arr_bytes] at ba; unfold reachBytes at ba; show al.length ≤ _; omega
      · rw [blk_bytes] at bb; unfold reachBytes at bb; show bl.length ≤ _; omega
set_option maxRecDepth 100000 in
theorem open_ir {W : World} {H : Type} {enc : TypeId × Value → H} {v : Value} {d : DataW H} {ps : List MemPlace} {base : Nat} (hval : Value.okWide Try.prog W .any base 25 v)
    (hd : DataW.Trod enc Try.prog W 0 (fun _ => true) true 25 v d ps) (hlt : ∀ p ∈ ps, p.block < W.heap.size) (hw : ∀ n ∈ d.weights Try.prog 25, n ≤ reachBytes) :
    ∃ (p : Ir) (av bv : Value), v = irVal p av bv ∧ IrRep W W.heap.size p av bv ∧ p.fine := by
  have hval2 := hval
  simp only [Value.okWide, Try.underlying25] at hval2
  obtain ⟨cs, rfl, hsz, _⟩ := hval2
  obtain ⟨p, av, bv, he, h0, h1⟩ := (opens_ir (W := W) (B := W.heap.size)).arg hd hlt hw
  refine ⟨p, av, bv, ?_, h0, h1⟩
  obtain ⟨l⟩ := cs
  simp only [Value.cells, irVal] at he
  rw [he]
  rfl
end Go.Proofs.Ythkobddggoojlaa
