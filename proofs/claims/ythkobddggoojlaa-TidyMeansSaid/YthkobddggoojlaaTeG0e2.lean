/- Parts of a proof, joined. No condition but those that each theorem names. -/
import Derived.WalkKit
import Derived.OpenShut
import Derived.Below
import Derived.Lib.Hide
import Derived.Laws.OwnMore
import Derived.Deep.QuietTactic
import Derived.Deep.AppendLies
import Derived.ProofKit
import Derived.SizedLaws
import Derived.Test.YthkobddggoojlaaProg
import Derived.Test.YthkobddggoojlaaTeG0e0
import Derived.Test.YthkobddggoojlaaTeG0e1
namespace Go.Proofs.Ythkobddggoojlaa
open Go.ChangeShapes Go.WideShapes Go.ChangeAt Go.RowKit
set_option linter.unusedVariables false

structure Arr where
  elem : Int
  len : Int
  kind : Int
  off : Int
structure Opn where
  kind : Int
  dst : Int
  a : Int
  b : Int
  c : Int
  imm : Int
structure Trm where
  kind : Int
  a : Int
  yes : Int
  no : Int
structure Blk where
  ops : List Opn
  term : Trm
structure Ir where
  temps : Int
  arrays : List Arr
  blocks : List Blk
  inp : Int
  out : Int
def arrCells (x : Arr) : List Value := [.int .i64 x.elem, .int .i64 x.len, .int .i64 x.kind, .int .i64 x.off]
def opCells (x : Opn) : List Value := [.int .i64 x.kind, .int .i64 x.dst, .int .i64 x.a, .int .i64 x.b, .int .i64 x.c, .int .i64 x.imm]
def trmCells (x : Trm) : List Value := [.int .i64 x.kind, .int .i64 x.a, .int .i64 x.yes, .int .i64 x.no]
def arrEnc : Enc Arr := flatEnc 4 arrCells (fun _ => rfl)
def opEnc : Enc Opn := flatEnc 6 opCells (fun _ => rfl)
def blkEnc : Enc Blk where
  size := 5
  rep w B es t := ∃ v, es = v :: trmCells t.term ∧ SlRep opEnc w B v t.ops
  len h := by obtain ⟨v, rfl, _⟩ := h; rfl
  keep h hB hk := by obtain ⟨v, e, h⟩ := h; exact ⟨v, e, h.keep hB hk⟩
/-- A program that these two slices and numbers make. -/
def irVal (p : Ir) (av bv : Value) : Value := .agg #[.int .i64 p.temps, av, bv, .int .i64 p.inp, .int .i64 p.out]
def IrRep (w : World) (B : Nat) (p : Ir) (av bv : Value) : Prop := SlRep arrEnc w B av p.arrays ∧ SlRep blkEnc w B bv p.blocks
theorem IrRep.below {w w' : World} {B C : Nat} {p : Ir} {av bv : Value} (h : IrRep w B p av bv) (hb : Below C w w') (hB : B ≤ C) : IrRep w' B p av bv := ⟨h.1.below hb hB, h.2.below hb hB⟩
theorem IrRep.next {w w' : World} {p : Ir} {av bv : Value} (h : IrRep w w.heap.size p av bv) (hb : Below w.heap.size w w') : IrRep w' w'.heap.size p av bv := ⟨h.1.next hb, h.2.next hb⟩
theorem arr_cells : Try.prog.cellsOf 59 = 4 := by kernel_rfl
theorem op_cells : Try.prog.cellsOf 46 = 6 := by kernel_rfl
theorem trm_cells : Try.prog.cellsOf 38 = 4 := by kernel_rfl
theorem ops_cells : Try.prog.cellsOf 36 = 1 := by kernel_rfl
theorem blk_cells : Try.prog.cellsOf 40 = 5 := by kernel_rfl
theorem ir_cells : Try.prog.cellsOf 25 = 5 := by kernel_rfl
theorem int_cells : Try.prog.cellsOf 3 = 1 := by kernel_rfl
theorem arrs_cells : Try.prog.cellsOf 22 = 1 := by kernel_rfl
theorem blks_cells : Try.prog.cellsOf 23 = 1 := by kernel_rfl
def IntR (n : Int) : Prop := -9223372036854775808 ≤ n ∧ n ≤ 9223372036854775807
theorem intR_wf {n : Int} (h : (Lit.int .i64 n).wf = true) : IntR n := bounds_i64 h
def Arr.fine (x : Arr) : Prop := IntR x.elem ∧ IntR x.len ∧ IntR x.kind ∧ IntR x.off
def Opn.fine (x : Opn) : Prop := IntR x.kind ∧ IntR x.dst ∧ IntR x.a ∧ IntR x.b ∧ IntR x.c ∧ IntR x.imm
def Trm.fine (x : Trm) : Prop := IntR x.kind ∧ IntR x.a ∧ IntR x.yes ∧ IntR x.no
/-- What is known of any program that comes in. -/
def Blk.fine (x : Blk) : Prop := x.ops.length ≤ 4398046511104 ∧ (∀ o ∈ x.ops, o.fine) ∧ x.term.fine
def Ir.fine (p : Ir) : Prop := IntR p.temps ∧ IntR p.inp ∧ IntR p.out ∧ p.arrays.length ≤ 4398046511104 ∧ p.blocks.length ≤ 4398046511104 ∧ (∀ x ∈ p.arrays, x.fine) ∧ (∀ x ∈ p.blocks, x.fine)
theorem opens_arr {W : World} {B : Nat} : Opens Try.prog W B 59 (fun cs => ∃ e : Arr, cs = arrCells e ∧ e.fine) := by
  refine (opens_flat Try.underlying59 (by kernel_rfl) (fun _ v => ∃ n, v = .int .i64 n ∧ (Lit.int .i64 n).wf = true) ?_).mono ?_
  · intro i f hf
    match i, hf with
    | 0, hf | 1, hf | 2, hf | 3, hf => simp at hf; subst hf; exact opens_int1 Try.underlying3
    | i + 4, hf => simp at hf
  · intro cs ⟨hl, hf⟩
    rw [arr_cells] at hl
    match cs, hl with
    | [x0, x1, x2, x3], _ =>
      obtain ⟨a, rfl, h0⟩ := hf 0 _ (by decide) rfl
      obtain ⟨b, rfl, h1⟩ := hf 1 _ (by decide) rfl
      obtain ⟨c, rfl, h2⟩ := hf 2 _ (by decide) rfl
      obtain ⟨d, rfl, h3⟩ := hf 3 _ (by decide) rfl
      exact ⟨⟨a, b, c, d⟩, rfl, intR_wf h0, intR_wf h1, intR_wf h2, intR_wf h3⟩
theorem opens_trm {W : World} {B : Nat} : Opens Try.prog W B 38 (fun cs => ∃ e : Trm, cs = trmCells e ∧ e.fine) := by
  refine (opens_flat Try.underlying38 (by kernel_rfl) (fun _ v => ∃ n, v = .int .i64 n ∧ (Lit.int .i64 n).wf = true) ?_).mono ?_
  · intro i f hf
    match i, hf with
    | 0, hf | 1, hf | 2, hf | 3, hf => simp at hf; subst hf; exact opens_int1 Try.underlying3
    | i + 4, hf => simp at hf
  · intro cs ⟨hl, hf⟩
    rw [trm_cells] at hl
    match cs, hl with
    | [x0, x1, x2, x3], _ =>
      obtain ⟨a, rfl, h0⟩ := hf 0 _ (by decide) rfl
      obtain ⟨b, rfl, h1⟩ := hf 1 _ (by decide) rfl
      obtain ⟨c, rfl, h2⟩ := hf 2 _ (by decide) rfl
      obtain ⟨d, rfl, h3⟩ := hf 3 _ (by decide) rfl
      exact ⟨⟨a, b, c, d⟩, rfl, intR_wf h0, intR_wf h1, intR_wf h2, intR_wf h3⟩
theorem opens_op {W : World} {B : Nat} : Opens Try.prog W B 46 (fun cs => ∃ e : Opn, cs = opCells e ∧ e.fine) := by
  refine (opens_flat Try.underlying46 (by kernel_rfl) (fun _ v => ∃ n, v = .int .i64 n ∧ (Lit.int .i64 n).wf = true) ?_).mono ?_
  · intro i f hf
    match i, hf with
    | 0, hf | 1, hf | 2, hf | 3, hf | 4, hf | 5, hf => simp at hf; subst hf; exact opens_int1 Try.underlying3
    | i + 6, hf => simp at hf
  · intro cs ⟨hl, hf⟩
    rw [op_cells] at hl
    match cs, hl with
    | [x0, x1, x2, x3, x4, x5], _ =>
      obtain ⟨a, rfl, h0⟩ := hf 0 _ (by decide) rfl
      obtain ⟨b, rfl, h1⟩ := hf 1 _ (by decide) rfl
      obtain ⟨c, rfl, h2⟩ := hf 2 _ (by decide) rfl
      obtain ⟨d, rfl, h3⟩ := hf 3 _ (by decide) rfl
      obtain ⟨e, rfl, h4⟩ := hf 4 _ (by decide) rfl
      obtain ⟨f, rfl, h5⟩ := hf 5 _ (by decide) rfl
      exact ⟨⟨a, b, c, d, e, f⟩, rfl, intR_wf h0, intR_wf h1, intR_wf h2, intR_wf h3, intR_wf h4, intR_wf h5⟩
/-- A slice's cells, as a list of its elements. -/
theorem slRep_of {P : Program} {W : World} {B : Nat} {e : TypeId} {T : Type} {E : Enc T} {G : T → Prop} {R : List Value → Prop} {cs : List Value} (hsz : P.cellsOf e = E.size) (hpos : 0 < E.size) (hR : ∀ es, R es → ∃ t, E.rep W B es t ∧ G t) (h : SliceCells P W B e R cs) :
    ∃ v l, cs = [v] ∧ SlRep E W B v l ∧ (∀ t ∈ l, G t) ∧ l.length * P.bytesOf e ≤ reachBytes := by
  obtain ⟨A, len, cap, rfl, h1, h2, h3, h4, h5, h6⟩ := h
  have hx : ∀ i : Fin len, ∃ t : T, G t ∧ ∃ a es, A = some a ∧ E.rep W B es t ∧ ∀ j u, es[j]? = some u → W.cell? (a.add (i * E.size + j)) = some u := by
    intro i
    obtain ⟨a, es, ha, _, hr, hc⟩ := h6 i i.2
    obtain ⟨t, ht, hg⟩ := hR es hr
    rw [hsz] at hc
    exact ⟨t, hg, a, es, ha, ht, hc⟩
  obtain ⟨f, hf⟩ := Classical.axiomOfChoice hx
  refine ⟨_, List.ofFn f, rfl, ⟨A, cap, by simp, by simpa using h1, fun k t hk => ?_⟩, fun t ht => ?_, ?_⟩
  · rw [List.getElem?_ofFn] at hk
    split at hk
    · rename_i hlt
      injection hk with hk
      subst hk
      obtain ⟨_, a, es, ha, hr, hc⟩ := hf ⟨k, hlt⟩
      rw [hsz] at h5
      obtain ⟨b, off, rfl, hb⟩ := h5 (Nat.mul_pos (by omega) hpos)
      injection ha with ha
      subst ha
      refine ⟨b, off, es, rfl, hb, hr, fun j u hu => ?_⟩
      have := hc j u hu
      rw [show ((⟨b, off, none⟩ : Addr).add (k * E.size + j)) = ⟨b, off + k * E.size + j, none⟩ by
        unfold Addr.add; split
        · rename_i h; simp
        · simp [← Nat.add_assoc]] at this
      exact this
    · cases hk
  · obtain ⟨i, rfl⟩ := (List.mem_ofFn).1 ht
    exact (hf i).1
  · rw [List.length_ofFn]
    exact Nat.le_trans (Nat.mul_le_mul_right _ h1) h3
def opsRs (W : World) (B : Nat) (i : Nat) : List Value → Prop := if i = 0 then SliceCells Try.prog W B 46 (fun cs => ∃ e : Opn, cs = opCells e ∧ e.fine) else (fun cs => ∃ e : Trm, cs = trmCells e ∧ e.fine)
theorem op_bytes : Try.prog.bytesOf 46 = 48 := by kernel_rfl
theorem arr_bytes : Try.prog.bytesOf 59 = 32 := by kernel_rfl
theorem blk_bytes : Try.prog.bytesOf 40 = 56 := by kernel_rfl
set_option maxRecDepth 100000 in
theorem opens_blk {W : World} {B : Nat} : Opens Try.prog W B 40 (fun cs => ∃ e : Blk, blkEnc.rep W B cs e ∧ e.fine) := by
  refine (opens_struct Try.underlying40 (opsRs W B) ?_).mono ?_
  · intro i f hf
    match i, hf with
    | 0, hf => simp at hf; subst hf; exact opens_slice Try.underlying36 _ opens_op
    | 1, hf => simp at hf; subst hf; exact opens_trm
    | i + 2, hf => simp at hf
  · intro cs ⟨hl, hf⟩
    rw [blk_cells] at hl
    match cs, hl with
    | [x0, x1, x2, x3, x4], _ =>
      have h0 : SliceCells Try.prog W B 46 (fun cs => ∃ e : Opn, cs = opCells e ∧ e.fine) (([x0, x1, x2, x3, x4].drop 0).take (Try.prog.cellsOf 36)) := hf 0 _ rfl
      have h1 : ∃ e : Trm, (([x0, x1, x2, x3, x4].drop 1).take (Try.prog.cellsOf 38)) = trmCells e ∧ e.fine := hf 1 _ rfl
      rw [ops_cells] at h0
      rw [trm_cells] at h1
      obtain ⟨t, ht, htf⟩ := h1
      obtain ⟨v, l, hv, hl, hg, hb⟩ := slRep_of (E := opEnc) (G := Opn.fine) op_cells (by decide) (fun es ⟨e, h, hg⟩ => ⟨e, h, hg⟩) h0
      refine ⟨⟨l, t⟩, ⟨v, ?_, hl⟩, ?_, hg, htf⟩
      · have e1 : [x0] = [v] := hv
        have e2 : [x1, x2, x3, x4] = trmCells t := ht
        injection e1 with e1
        rw [e1, e2]
      · rw [op_bytes] at hb
        unfold reachBytes at hb
        show l.length ≤ _
        omega
def irRs (W : World) (B : Nat) (i : Nat) : List Value → Prop :=
  if i = 1 then SliceCells Try.prog W B 59 (fun cs => ∃ e : Arr, cs = arrCells e ∧ e.fine) else if i = 2 then SliceCells Try.prog W B 40 (fun cs => ∃ e : Blk, blkEnc.rep W B cs e ∧ e.fine) else fun cs => ∃ n, cs = [.int .i64 n] ∧ (Lit.int .i64 n).wf = true
set_option maxRecDepth 100000 in
theorem opens_ir {W : World} {B : Nat} : Opens Try.prog W B 25 (fun cs => ∃ (p : Ir) (av bv : Value), cs = (irVal p av bv).cells.toList ∧ IrRep W B p av bv ∧ p.fine) := by
  refine (opens_struct Try.underlying25 (irRs W B) ?_).mono ?_
  · intro i f hf
    match i, hf with
    | 0, hf | 3, hf | 4, hf => simp at hf; subst hf; exact opens_int Try.underlying3
    | 1, hf => simp at hf; subst hf; exact opens_slice Try.underlying22 _ opens_arr
    | 2, hf => simp at hf; subst hf; exact opens_slice Try.underlying23 _ opens_blk
    | i + 5, hf => simp at hf
  · intro cs ⟨hl, hf⟩
    rw [ir_cells] at hl
    match cs, hl with
    | [x0, x1, x2, x3, x4], _ =>
      have h0 : ∃ n, (([x0, x1, x2, x3, x4].drop 0).take (Try.prog.cellsOf 3)) = [.int .i64 n] ∧ (Lit.int .i64 n).wf = true := hf 0 _ rfl
      have h1 : SliceCells Try.prog W B 59 (fun cs => ∃ e : Arr, cs = arrCells e ∧ e.fine) (([x0, x1, x2, x3, x4].drop 1).take (Try.prog.cellsOf 22)) := hf 1 _ rfl
      have h2 : SliceCells Try.prog W B 40 (fun cs => ∃ e : Blk, blkEnc.rep W B cs e ∧ e.fine) (([x0, x1, x2, x3, x4].drop 2).take (Try.prog.cellsOf 23)) := hf 2 _ rfl
      have h3 : ∃ n, (([x0, x1, x2, x3, x4].drop 3).take (Try.prog.cellsOf 3)) = [.int .i64 n] ∧ (Lit.int .i64 n).wf = true := hf 3 _ rfl
      have h4 : ∃ n, (([x0, x1, x2, x3, x4].drop 4).take (Try.prog.cellsOf 3)) = [.int .i64 n] ∧ (Lit.int .i64 n).wf = true := hf 4 _ rfl
      rw [int_cells] at h0 h3 h4
      rw [arrs_cells] at h1
      rw [blks_cells] at h2
      obtain ⟨n0, e0, w0⟩ := h0
      obtain ⟨n3, e3, w3⟩ := h3
      obtain ⟨n4, e4, w4⟩ := h4
      obtain ⟨av, al, ea, ha, ga, ba⟩ := slRep_of (E := arrEnc) (G := Arr.fine) arr_cells (by decide) (fun es ⟨e, h, hg⟩ => ⟨e, h, hg⟩) h1
      obtain ⟨bv, bl, eb, hb, gb, bb⟩ := slRep_of (E := blkEnc) (G := Blk.fine) blk_cells (by decide) (fun es ⟨e, h, hg⟩ => ⟨e, h, hg⟩) h2
      have f0 : [x0] = [Value.int .i64 n0] := e0
      have fa : [x1] = [av] := ea
      have fb : [x2] = [bv] := eb
      have f3 : [x3] = [Value.int .i64 n3] := e3
      have f4 : [x4] = [Value.int .i64 n4] := e4
      injection f0 with f0; injection fa with fa; injection fb with fb; injection f3 with f3; injection f4 with f4
      clear e0 ea eb e3 e4 hf hl
      subst f0 fa fb f3 f4
      refine ⟨⟨n0, al, bl, n3, n4⟩, x1, x2, rfl, ⟨ha, hb⟩, intR_wf w0, intR_wf w3, intR_wf w4, ?_, ?_, ga, gb⟩
      · rw [arr_bytes] at ba; unfold reachBytes at ba; show al.length ≤ _; omega
      · rw [blk_bytes] at bb; unfold reachBytes at bb; show bl.length ≤ _; omega
set_option maxRecDepth 100000 in
theorem open_ir {W : World} {H : Type} {enc : TypeId × Value → H} {v : Value} {d : DataW H} {ps : List MemPlace} {base : Nat} (hval : Value.okWide Try.prog W .any base 25 v)
    (hd : DataW.Trod enc Try.prog W 0 (fun _ => true) true 25 v d ps) (hlt : ∀ p ∈ ps, p.block < W.heap.size) (hw : ∀ n ∈ d.weights Try.prog 25, n ≤ reachBytes) :
    ∃ (p : Ir) (av bv : Value), v = irVal p av bv ∧ IrRep W W.heap.size p av bv ∧ p.fine := by
  have hval2 := hval
  simp only [Value.okWide, Try.underlying25] at hval2
  obtain ⟨cs, rfl, hsz, _⟩ := hval2
  obtain ⟨p, av, bv, he, h0, h1⟩ := (opens_ir (W := W) (B := W.heap.size)).arg hd hlt hw
  refine ⟨p, av, bv, ?_, h0, h1⟩
  obtain ⟨l⟩ := cs
  simp only [Value.cells, irVal] at he
  rw [he]
  rfl
end Go.Proofs.Ythkobddggoojlaa
namespace Go.Proofs.Ythkobddggoojlaa
open Go.RowKit
set_option linter.unusedVariables false

def shapedP (a : Arr) : Prop := (a.elem = 1 ∨ a.elem = 4) ∧ 1 ≤ a.len ∧ a.len ≤ 16384
instance (a : Arr) : Decidable (shapedP a) := by unfold shapedP; infer_instance
def up4 (n : Int) : Int := (n + 3) / 4 * 4
def room (a : Arr) : Int := if shapedP a then up4 (a.elem * a.len) else 0
def railBytes (a : Arr) : Int := if a.kind = 0 then room a else 0
def railSum : List Arr → Int
  | [] => 0
  | a :: l => railBytes a + railSum l
def opsSum : List Blk → Nat
  | [] => 0
  | b :: l => b.ops.length + opsSum l
def greatP (p : Ir) : Prop := 1048576 < p.temps ∨ 1048576 < (p.arrays.length : Int) ∨ 1048576 < (p.blocks.length : Int) ∨ 1048576 < (opsSum p.blocks : Int) ∨ 65536 < max p.out 0 + railSum p.arrays
instance (p : Ir) : Decidable (greatP p) := by unfold greatP; infer_instance
theorem room_range (a : Arr) : 0 ≤ room a ∧ room a ≤ 65536 := by
  unfold room up4
  split
  · rename_i h
    obtain ⟨h1, h2, h3⟩ := h
    rcases h1 with h1 | h1 <;> rw [h1] <;> omega
  · omega
theorem railBytes_range (a : Arr) : 0 ≤ railBytes a ∧ railBytes a ≤ 65536 := by
  have := room_range a
  unfold railBytes; split <;> omega
theorem railSum_append : ∀ l m : List Arr, railSum (l ++ m) = railSum l + railSum m
  | [], m => by simp [railSum]
  | a :: l, m => by rw [List.cons_append, railSum, railSum, railSum_append l m]; omega
theorem railSum_nonneg : ∀ l : List Arr, 0 ≤ railSum l
  | [] => by simp [railSum]
  | a :: l => by have := railBytes_range a; have := railSum_nonneg l; rw [railSum]; omega
theorem railSum_take (l : List Arr) (k : Nat) : railSum (l.take k) ≤ railSum l := by
  have h : railSum (l.take k ++ l.drop k) = _ := railSum_append _ _
  rw [List.take_append_drop] at h
  have := railSum_nonneg (l.drop k)
  omega
theorem opsSum_append : ∀ l m : List Blk, opsSum (l ++ m) = opsSum l + opsSum m
  | [], m => by simp [opsSum]
  | a :: l, m => by rw [List.cons_append, opsSum, opsSum, opsSum_append l m]; omega
theorem opsSum_take (l : List Blk) (k : Nat) : opsSum (l.take k) ≤ opsSum l := by
  have h : opsSum (l.take k ++ l.drop k) = _ := opsSum_append _ _
  rw [List.take_append_drop] at h
  omega
/-- May an array be, and where does the output's next one begin? -/
def arrStep (inp out en : Int) (a : Arr) : Option Int :=
  if ¬ shapedP a then none
  else if a.kind = 0 then (if a.off = 0 then some en else none)
  else if a.kind = 1 then (if 0 ≤ a.off ∧ a.off ≤ inp - a.elem * a.len ∧ a.off % 4 = 0 then some en else none)
  else if a.kind = 2 then (if en ≤ a.off ∧ a.off ≤ out - a.elem * a.len ∧ a.off % 4 = 0 then some (up4 (a.off + a.elem * a.len)) else none)
  else none
def arrEnd (inp out : Int) : List Arr → Int → Option Int
  | [], en => some en
  | a :: l, en => match arrStep inp out en a with
    | none => none
    | some e => arrEnd inp out l e
theorem arrEnd_append (inp out : Int) : ∀ (l m : List Arr) (en : Int), arrEnd inp out (l ++ m) en = match arrEnd inp out l en with
    | none => none
    | some e => arrEnd inp out m e
  | [], m, en => rfl
  | a :: l, m, en => by
    rw [List.cons_append, arrEnd, arrEnd]
    cases arrStep inp out en a with
    | none => rfl
    | some e => exact arrEnd_append inp out l m e
/-- An operation's form: does it make a temp, how many does it read, its number's bound, is there one? -/
def fDst (k : Int) : Bool := decide (1 ≤ k ∧ k ≤ 18)
def fSrc (k : Int) : Nat := if k = 2 ∨ k = 10 ∨ k = 11 ∨ k = 12 ∨ k = 13 ∨ k = 18 then 1 else if k = 17 then 3 else if 3 ≤ k ∧ k ≤ 19 then 2 else 0
def fMost (k : Int) : Int := if k = 1 then 4294967295 else if 11 ≤ k ∧ k ≤ 13 then 31 else if k = 18 ∨ k = 19 then 1048576 else 0
def fOk (k : Int) : Bool := decide (1 ≤ k ∧ k ≤ 19)
def isTemp (p : Ir) (t : Int) : Prop := 0 ≤ t ∧ t < p.temps
instance (p : Ir) (t : Int) : Decidable (isTemp p t) := by unfold isTemp; infer_instance
def fieldP (p : Ir) (there : Bool) (t : Int) : Prop := if there then isTemp p t else t = 0
instance (p : Ir) (b : Bool) (t : Int) : Decidable (fieldP p b t) := by unfold fieldP; infer_instance
def arrNone : Arr := ⟨0, 0, 0, 0⟩
def opP (p : Ir) (o : Opn) : Prop := fOk o.kind = true ∧ (0 ≤ o.imm ∧ o.imm ≤ fMost o.kind) ∧ fieldP p (fDst o.kind) o.dst ∧ fieldP p (decide (0 < fSrc o.kind)) o.a ∧ fieldP p (decide (1 < fSrc o.kind)) o.b ∧ fieldP p (decide (2 < fSrc o.kind)) o.c ∧
  (o.kind = 18 ∨ o.kind = 19 → o.imm < p.arrays.length ∧ (o.kind = 18 ∨ (p.arrays.getD o.imm.toNat arrNone).kind ≠ 1))
instance (p : Ir) (o : Opn) : Decidable (opP p o) := by unfold opP; infer_instance
def labelP (p : Ir) (n : Int) : Prop := -1 ≤ n ∧ n < p.blocks.length
instance (p : Ir) (n : Int) : Decidable (labelP p n) := by unfold labelP; infer_instance
def trmP (p : Ir) (t : Trm) : Prop := (t.kind = 1 ∧ t.a = 0 ∧ t.no = 0 ∧ labelP p t.yes) ∨ (t.kind = 2 ∧ isTemp p t.a ∧ labelP p t.yes ∧ labelP p t.no) ∨ (t.kind = 3 ∧ t.a = 0 ∧ t.yes = 0 ∧ t.no = 0)
instance (p : Ir) (t : Trm) : Decidable (trmP p t) := by unfold trmP; infer_instance
def blkP (p : Ir) (b : Blk) : Prop := (∀ o ∈ b.ops, opP p o) ∧ trmP p b.term
instance (p : Ir) (b : Blk) : Decidable (blkP p b) := by unfold blkP; infer_instance
def headP (p : Ir) : Prop := (0 ≤ p.inp ∧ p.inp ≤ 65536 ∧ p.inp % 4 = 0) ∧ (0 ≤ p.out ∧ p.out ≤ 65536 ∧ p.out % 4 = 0) ∧ 0 ≤ p.temps ∧ p.blocks ≠ []
instance (p : Ir) : Decidable (headP p) := by unfold headP; infer_instance
def mayP (p : Ir) : Prop := headP p ∧ (arrEnd p.inp p.out p.arrays 0).isSome = true ∧ ∀ b ∈ p.blocks, blkP p b
instance (p : Ir) : Decidable (mayP p) := by unfold mayP; infer_instance
/-- The error of a program of blocks; 0: it may be. -/
def irErr (p : Ir) : Int := if greatP p then 18 else if mayP p then 0 else 2
end Go.Proofs.Ythkobddggoojlaa
namespace Go.Proofs.Ythkobddggoojlaa
open Go.RowKit
set_option linter.unusedVariables false
def trmNone : Trm := ⟨0, 0, 0, 0⟩
def blkNone : Blk := ⟨[], trmNone⟩
def opNone : Opn := ⟨0, 0, 0, 0, 0, 0⟩
theorem getD_some {T : Type} (l : List T) (k : Nat) (d : T) (h : k < l.length) : l[k]? = some (l.getD k d) := by
  rw [List.getD_eq_getElem?_getD, List.getElem?_eq_getElem h]; rfl
theorem getD_memI {T : Type} (l : List T) (k : Nat) (d : T) (h : k < l.length) : l.getD k d ∈ l := by
  rw [List.getD_eq_getElem?_getD, List.getElem?_eq_getElem h]; exact List.getElem_mem h
theorem take_succ_getD {T : Type} (l : List T) (k : Nat) (d : T) (h : k < l.length) : l.take (k + 1) = l.take k ++ [l.getD k d] := by
  rw [List.take_succ_eq_append_getElem h, List.getD_eq_getElem?_getD, List.getElem?_eq_getElem h]; rfl
/-- A slice that reads as a list is a slice of that length. -/
theorem SlRep.form {T : Type} {E : Enc T} {w : World} {B : Nat} {v : Value} {l : List T} (h : SlRep E w B v l) : ∃ A c, v = .slice A l.length c ∧ l.length ≤ c := by
  obtain ⟨A, c, e, hc, _⟩ := h
  exact ⟨A, c, e, hc⟩
theorem arr_at {w : World} {B : Nat} {A : Option Addr} {c : Nat} {l : List Arr} (h : SlRep arrEnc w B (.slice A l.length c) l) (k : Nat) (hk : k < l.length) :
    ∃ b off, A = some ⟨b, off, none⟩ ∧ b < B ∧ w.cell? ⟨b, off + k * 4, none⟩ = some (.int .i64 (l.getD k arrNone).elem) ∧ w.cell? ⟨b, off + k * 4 + 1, none⟩ = some (.int .i64 (l.getD k arrNone).len) ∧
      w.cell? ⟨b, off + k * 4 + 2, none⟩ = some (.int .i64 (l.getD k arrNone).kind) ∧ w.cell? ⟨b, off + k * 4 + 3, none⟩ = some (.int .i64 (l.getD k arrNone).off) := by
  obtain ⟨A', c', e, _, h⟩ := h
  injection e with e
  subst e
  obtain ⟨b, off, es, e1, h1, h2, h3⟩ := h k _ (getD_some l k arrNone hk)
  have h2 : es = arrCells (l.getD k arrNone) := h2
  subst h2
  exact ⟨b, off, e1, h1, h3 0 _ rfl, h3 1 _ rfl, h3 2 _ rfl, h3 3 _ rfl⟩
theorem op_at {w : World} {B : Nat} {A : Option Addr} {c : Nat} {l : List Opn} (h : SlRep opEnc w B (.slice A l.length c) l) (k : Nat) (hk : k < l.length) :
    ∃ b off, A = some ⟨b, off, none⟩ ∧ b < B ∧ w.cell? ⟨b, off + k * 6, none⟩ = some (.int .i64 (l.getD k opNone).kind) ∧ w.cell? ⟨b, off + k * 6 + 1, none⟩ = some (.int .i64 (l.getD k opNone).dst) ∧
      w.cell? ⟨b, off + k * 6 + 2, none⟩ = some (.int .i64 (l.getD k opNone).a) ∧ w.cell? ⟨b, off + k * 6 + 3, none⟩ = some (.int .i64 (l.getD k opNone).b) ∧
      w.cell? ⟨b, off + k * 6 + 4, none⟩ = some (.int .i64 (l.getD k opNone).c) ∧ w.cell? ⟨b, off + k * 6 + 5, none⟩ = some (.int .i64 (l.getD k opNone).imm) := by
  obtain ⟨A', c', e, _, h⟩ := h
  injection e with e
  subst e
  obtain ⟨b, off, es, e1, h1, h2, h3⟩ := h k _ (getD_some l k opNone hk)
  have h2 : es = opCells (l.getD k opNone) := h2
  subst h2
  exact ⟨b, off, e1, h1, h3 0 _ rfl, h3 1 _ rfl, h3 2 _ rfl, h3 3 _ rfl, h3 4 _ rfl, h3 5 _ rfl⟩
theorem blk_at {w : World} {B : Nat} {A : Option Addr} {c : Nat} {l : List Blk} (h : SlRep blkEnc w B (.slice A l.length c) l) (k : Nat) (hk : k < l.length) :
    ∃ b off, A = some ⟨b, off, none⟩ ∧ b < B ∧ ∃ OA oc, SlRep opEnc w B (.slice OA (l.getD k blkNone).ops.length oc) (l.getD k blkNone).ops ∧ (l.getD k blkNone).ops.length ≤ oc ∧
      w.cell? ⟨b, off + k * 5, none⟩ = some (.slice OA (l.getD k blkNone).ops.length oc) ∧ w.cell? ⟨b, off + k * 5 + 1, none⟩ = some (.int .i64 (l.getD k blkNone).term.kind) ∧
      w.cell? ⟨b, off + k * 5 + 2, none⟩ = some (.int .i64 (l.getD k blkNone).term.a) ∧ w.cell? ⟨b, off + k * 5 + 3, none⟩ = some (.int .i64 (l.getD k blkNone).term.yes) ∧
      w.cell? ⟨b, off + k * 5 + 4, none⟩ = some (.int .i64 (l.getD k blkNone).term.no) := by
  obtain ⟨A', c', e, _, h⟩ := h
  injection e with e
  subst e
  obtain ⟨b, off, es, e1, h1, h2, h3⟩ := h k _ (getD_some l k blkNone hk)
  have h2 : ∃ v, es = v :: trmCells (l.getD k blkNone).term ∧ SlRep opEnc w B v (l.getD k blkNone).ops := h2
  obtain ⟨v, rfl, hv⟩ := h2
  obtain ⟨OA, oc, rfl, hoc⟩ := hv.form
  exact ⟨b, off, e1, h1, OA, oc, hv, hoc, h3 0 _ rfl, h3 1 _ rfl, h3 2 _ rfl, h3 3 _ rfl, h3 4 _ rfl⟩
theorem opsSum_step (l : List Blk) (k : Nat) (h : k < l.length) : opsSum (l.take (k + 1)) = opsSum (l.take k) + (l.getD k blkNone).ops.length := by
  rw [take_succ_getD l k blkNone h, opsSum_append]; rfl
theorem railSum_step (l : List Arr) (k : Nat) (h : k < l.length) : railSum (l.take (k + 1)) = railSum (l.take k) + railBytes (l.getD k arrNone) := by
  rw [take_succ_getD l k arrNone h, railSum_append]
  show _ = _ + _
  congr 1
  show railBytes _ + 0 = _
  omega
theorem arrEnd_step (inp out : Int) (l : List Arr) (k : Nat) (h : k < l.length) (e : Int) (he : arrEnd inp out (l.take k) 0 = some e) : arrEnd inp out (l.take (k + 1)) 0 = arrStep inp out e (l.getD k arrNone) := by
  rw [take_succ_getD l k arrNone h, arrEnd_append, he]
  show arrEnd inp out [_] e = _
  unfold arrEnd
  cases arrStep inp out e (l.getD k arrNone) <;> rfl
theorem arrEnd_fail (inp out : Int) (l : List Arr) (k : Nat) (he : arrEnd inp out (l.take k) 0 = none) : arrEnd inp out l 0 = none := by
  have h := arrEnd_append inp out (l.take k) (l.drop k) 0
  rw [List.take_append_drop, he] at h
  exact h
theorem great_ops (p : Ir) (k : Nat) (h : 1048576 < (opsSum (p.blocks.take k) : Int)) : greatP p := by
  have := opsSum_take p.blocks k
  unfold greatP; omega
theorem great_rail (p : Ir) (k : Nat) (h : 65536 < max p.out 0 + railSum (p.arrays.take k)) : greatP p := by
  have := railSum_take p.arrays k
  unfold greatP; omega
end Go.Proofs.Ythkobddggoojlaa
namespace Go.Proofs.Ythkobddggoojlaa
open Go.RowKit
set_option linter.unusedVariables false
/-- What is known of the arrays of a program that may be. -/
theorem arrEnd_all (inp out : Int) : ∀ (l : List Arr) (en : Int), (arrEnd inp out l en).isSome = true → ∀ a ∈ l, shapedP a ∧ (a.kind = 0 ∨ a.kind = 1 ∨ a.kind = 2)
  | [], en, h, a, ha => by simp at ha
  | x :: l, en, h, a, ha => by
    unfold arrEnd at h
    cases hs : arrStep inp out en x with
    | none => rw [hs] at h; simp at h
    | some e =>
      rw [hs] at h
      rcases List.mem_cons.1 ha with rfl | ha
      · unfold arrStep at hs
        by_cases h1 : shapedP a
        · refine ⟨h1, ?_⟩
          rw [if_neg (by simpa using h1)] at hs
          by_cases k0 : a.kind = 0
          · exact .inl k0
          · rw [if_neg k0] at hs
            by_cases k1 : a.kind = 1
            · exact .inr (.inl k1)
            · rw [if_neg k1] at hs
              by_cases k2 : a.kind = 2
              · exact .inr (.inr k2)
              · rw [if_neg k2] at hs; cases hs
        · rw [if_pos (by simpa using h1)] at hs; cases hs
      · exact arrEnd_all inp out l e h a ha
theorem irErr_ok {p : Ir} (h : irErr p = 0) : ¬ greatP p ∧ mayP p := by
  unfold irErr at h
  by_cases hg : greatP p
  · rw [if_pos hg] at h; exact absurd h (by decide)
  · rw [if_neg hg] at h
    refine ⟨hg, ?_⟩
    by_cases hm : mayP p
    · exact hm
    · rw [if_neg hm] at h; exact absurd h (by decide)
end Go.Proofs.Ythkobddggoojlaa
namespace Go.Proofs.Ythkobddggoojlaa
open Go.RowKit
set_option linter.unusedVariables false
/-- Is a block a detour? -/
def tdDet (b : Blk) : Bool := b.ops.isEmpty && decide (b.term.kind = 1)
def tdAt (l : List Blk) (k : Int) : Blk := l.getD k.toNat blkNone
/-- Does a way end here? -/
def tdStop (l : List Blk) (k : Int) : Bool := decide (k = -1) || !tdDet (tdAt l k)
def tdNext (l : List Blk) (k : Int) : Int := (tdAt l k).term.yes
def tdStep (l : List Blk) (k : Int) : Int := if tdStop l k = true then k else tdNext l k
/-- Where a way is behind n steps. -/
def tdPath (l : List Blk) : Nat → Int → Int
  | 0, k => k
  | n + 1, k => tdStep l (tdPath l n k)
def tdLeads (l : List Blk) (k : Int) : Int := if tdStop l (tdPath l l.length k) = true then tdPath l l.length k else k
theorem tdPath_succ (l : List Blk) (n : Nat) (k : Int) : tdPath l (n + 1) k = tdStep l (tdPath l n k) := rfl
theorem tdPath_add (l : List Blk) (m : Nat) (k : Int) : ∀ n, tdPath l (m + n) k = tdPath l n (tdPath l m k)
  | 0 => rfl
  | n + 1 => by
    show tdStep l (tdPath l (m + n) k) = tdStep l (tdPath l n (tdPath l m k))
    rw [tdPath_add l m k n]
theorem tdStep_stop {l : List Blk} {k : Int} (h : tdStop l k = true) : tdStep l k = k := by unfold tdStep; rw [if_pos h]
theorem tdStep_go {l : List Blk} {k : Int} (h : tdStop l k = false) : tdStep l k = tdNext l k := by unfold tdStep; rw [h]; rfl
theorem tdPath_fix {l : List Blk} {k : Int} (h : tdStop l k = true) : ∀ n, tdPath l n k = k
  | 0 => rfl
  | n + 1 => by rw [tdPath_succ, tdPath_fix h n, tdStep_stop h]
theorem tdPath_stay {l : List Blk} {k : Int} {m n : Nat} (h : tdStop l (tdPath l m k) = true) (hn : m ≤ n) : tdPath l n k = tdPath l m k := by
  obtain ⟨d, rfl⟩ := Nat.exists_eq_add_of_le hn
  rw [tdPath_add, tdPath_fix h]
/-- A way that comes back never ends. -/
theorem tdPath_ring {l : List Blk} {k : Int} {i j : Nat} (hij : i < j) (he : tdPath l j k = tdPath l i k) (hs : tdStop l (tdPath l j k) = false) (m : Nat) : tdStop l (tdPath l m k) = false := by
  cases hm : tdStop l (tdPath l m k) with
  | false => rfl
  | true =>
    exfalso
    obtain ⟨d, rfl⟩ := Nat.exists_eq_add_of_le (Nat.le_of_lt hij)
    have hd : 0 < d := by omega
    have hr : ∀ t, tdPath l (i + t * d) k = tdPath l i k := by
      intro t
      induction t with
      | zero => simp
      | succ t ih =>
        rw [show i + (t + 1) * d = (i + t * d) + d by rw [Nat.succ_mul]; omega, tdPath_add, ih, ← tdPath_add, he]
    have h1 := hr m
    have h2 := tdPath_stay hm (show m ≤ i + m * d by have := Nat.le_mul_of_pos_right m hd; omega)
    rw [h1] at h2
    rw [← he] at h2
    rw [h2, hm] at hs
    cases hs
theorem tdLeads_stop {l : List Blk} {k : Int} {m : Nat} (hm : m ≤ l.length) (h : tdStop l (tdPath l m k) = true) : tdLeads l k = tdPath l m k := by
  unfold tdLeads
  rw [tdPath_stay h hm, if_pos h]
theorem tdLeads_ring {l : List Blk} {k : Int} (h : ∀ m, tdStop l (tdPath l m k) = false) : tdLeads l k = k := by
  unfold tdLeads
  rw [h]; rfl
/-- How many of a list of flags stand. -/
def tdTrues (s : List Bool) : Nat := s.count true
theorem tdTrues_le (s : List Bool) : tdTrues s ≤ s.length := List.count_le_length
theorem tdTrues_set : ∀ (s : List Bool) (i : Nat), i < s.length → s.getD i true = false → tdTrues (s.set i true) = tdTrues s + 1
  | [], i, h, _ => by simp at h
  | b :: s, 0, _, hb => by
    have hb : b = false := hb
    subst hb
    simp [tdTrues]
  | b :: s, i + 1, h, hb => by
    have ih := tdTrues_set s i (by simpa using h) (by simpa using hb)
    unfold tdTrues at ih ⊢
    rw [List.set_cons_succ, List.count_cons, List.count_cons, ih]
    omega
theorem tdTrues_clear : ∀ (s : List Bool) (i : Nat), i < s.length → s.getD i false = true → tdTrues (s.set i false) + 1 = tdTrues s
  | [], i, h, _ => by simp at h
  | b :: s, 0, _, hb => by
    have hb : b = true := hb
    subst hb
    simp [tdTrues]
  | b :: s, i + 1, h, hb => by
    have ih := tdTrues_clear s i (by simpa using h) (by simpa using hb)
    unfold tdTrues at ih ⊢
    rw [List.set_cons_succ, List.count_cons, List.count_cons, ← ih]
    omega
/-- What has been seen of a way, as the document's answer marks it. -/
structure TdSeen (l : List Blk) (k : Int) (j : Nat) (s : List Bool) : Prop where
  len : s.length = l.length
  num : tdTrues s = j
  mark : ∀ x, s.getD x false = true → ∃ i, i < j ∧ (tdPath l i k).toNat = x ∧ 0 ≤ tdPath l i k
  go : ∀ i, i < j → tdStop l (tdPath l i k) = false
theorem TdSeen.start (l : List Blk) (k : Int) : TdSeen l k 0 (List.replicate l.length false) := by
  refine ⟨List.length_replicate, ?_, fun x h => ?_, fun i h => by omega⟩
  · unfold tdTrues; rw [List.count_replicate]; rfl
  · exfalso
    rw [List.getD_eq_getElem?_getD, List.getElem?_replicate] at h
    split at h <;> simp at h
theorem TdSeen.le {l : List Blk} {k : Int} {j : Nat} {s : List Bool} (h : TdSeen l k j s) : j ≤ l.length := by
  have := tdTrues_le s
  rw [h.num, h.len] at this
  exact this
/-- The way ends: it is where the block leads. -/
theorem TdSeen.stop {l : List Blk} {k : Int} {j : Nat} {s : List Bool} (h : TdSeen l k j s) (hs : tdStop l (tdPath l j k) = true) : tdLeads l k = tdPath l j k := tdLeads_stop h.le hs
/-- The way comes back: it leads nowhere. -/
theorem TdSeen.ring {l : List Blk} {k : Int} {j : Nat} {s : List Bool} (h : TdSeen l k j s) (h0 : 0 ≤ tdPath l j k) (hs : tdStop l (tdPath l j k) = false) (hm : s.getD (tdPath l j k).toNat false = true) : tdLeads l k = k := by
  obtain ⟨i, hi, hx, hp⟩ := h.mark _ hm
  exact tdLeads_ring (tdPath_ring hi (by omega) hs)
theorem TdSeen.step {l : List Blk} {k : Int} {j : Nat} {s : List Bool} (h : TdSeen l k j s) (h0 : 0 ≤ tdPath l j k) (h1 : tdPath l j k < l.length) (hs : tdStop l (tdPath l j k) = false) (hm : s.getD (tdPath l j k).toNat false = false) : TdSeen l k (j + 1) (s.set (tdPath l j k).toNat true) := by
  have hl : (tdPath l j k).toNat < s.length := by rw [h.len]; omega
  refine ⟨by rw [List.length_set]; exact h.len, ?_, fun x hx => ?_, fun i hi => ?_⟩
  · rw [tdTrues_set s _ hl (by rw [List.getD_eq_getElem?_getD, List.getElem?_eq_getElem hl] at hm ⊢; exact hm), h.num]
  · by_cases e : (tdPath l j k).toNat = x
    · exact ⟨j, by omega, e, h0⟩
    · rw [List.getD_eq_getElem?_getD, List.getElem?_set_ne e, ← List.getD_eq_getElem?_getD] at hx
      obtain ⟨i, hi, h2⟩ := h.mark x hx
      exact ⟨i, by omega, h2⟩
  · by_cases e : i = j
    · subst e; exact hs
    · exact h.go i (by omega)
end Go.Proofs.Ythkobddggoojlaa
namespace Go.Proofs.Ythkobddggoojlaa
open Go.RowKit
set_option linter.unusedVariables false
def tdNam (g : Int → Int) (t : Trm) : Trm := if t.kind = 1 then ⟨1, t.a, g t.yes, t.no⟩ else if t.kind = 2 then ⟨2, t.a, g t.yes, g t.no⟩ else t
/-- The blocks that an end names. -/
def tdOne (k : Int) : List Int := if k = -1 then [] else [k]
def tdTg (t : Trm) : List Int := if t.kind = 1 then tdOne t.yes else if t.kind = 2 then tdOne t.yes ++ tdOne t.no else []
def tdLab (n : Nat) (k : Int) : Prop := -1 ≤ k ∧ k < n
def tdOkT (n : Nat) (t : Trm) : Prop := (t.kind = 1 ∧ tdLab n t.yes) ∨ (t.kind = 2 ∧ tdLab n t.yes ∧ tdLab n t.no) ∨ t.kind = 3
def TdOk (l : List Blk) : Prop := ∀ b ∈ l, tdOkT l.length b.term
theorem TdOk.at_ {l : List Blk} (h : TdOk l) (k : Nat) (hk : k < l.length) : tdOkT l.length (l.getD k blkNone).term := h _ (getD_memI l k blkNone hk)
theorem tdOne_mem {n : Nat} {k x : Int} (h : tdLab n k) (hx : x ∈ tdOne k) : 0 ≤ x ∧ x < n ∧ x = k := by
  obtain ⟨h1, h2⟩ := h
  unfold tdOne at hx
  split at hx
  · cases hx
  · obtain rfl := List.mem_singleton.1 hx
    exact ⟨by omega, h2, rfl⟩
theorem tdTg_lab {n : Nat} {t : Trm} (h : tdOkT n t) {x : Int} (hx : x ∈ tdTg t) : 0 ≤ x ∧ x < n := by
  unfold tdTg at hx
  rcases h with ⟨hk, h1⟩ | ⟨hk, h1, h2⟩ | hk
  · rw [if_pos hk] at hx
    have := tdOne_mem h1 hx
    exact ⟨this.1, this.2.1⟩
  · rw [if_neg (by omega), if_pos hk] at hx
    rcases List.mem_append.1 hx with hx | hx
    · have := tdOne_mem h1 hx; exact ⟨this.1, this.2.1⟩
    · have := tdOne_mem h2 hx; exact ⟨this.1, this.2.1⟩
  · rw [if_neg (by omega), if_neg (by omega)] at hx
    cases hx
def TdHold (S : Nat → Prop) (i : Nat) : Prop := S i
/-- There is a way from block 0. -/
def TdReach (l : List Blk) (k : Nat) : Prop := ∀ S : Nat → Prop, S 0 → (∀ (i : Nat) (x : Int), TdHold S i → x ∈ tdTg (l.getD i blkNone).term → S x.toNat) → S k
theorem TdReach.zero {l : List Blk} : TdReach l 0 := fun S h0 _ => h0
theorem TdReach.step {l : List Blk} (i : Nat) (x : Int) (h : TdReach l i) (hx : x ∈ tdTg (l.getD i blkNone).term) : TdReach l x.toNat := fun S h0 hs => hs i x (h S h0 hs) hx
def TdIn (l : List Blk) (s : List Bool) : Prop := s.length = l.length ∧ ∀ k, k < l.length → (s.getD k false = true ↔ TdReach l k)
theorem TdIn.uniq {l : List Blk} {s t : List Bool} (hs : TdIn l s) (ht : TdIn l t) : s = t := by
  refine List.ext_getElem (by rw [hs.1, ht.1]) fun k h1 h2 => ?_
  have a := hs.2 k (by rw [← hs.1]; exact h1)
  have b := ht.2 k (by rw [← ht.1]; exact h2)
  rw [List.getD_eq_getElem?_getD, List.getElem?_eq_getElem h1] at a
  rw [List.getD_eq_getElem?_getD, List.getElem?_eq_getElem h2] at b
  have e : (s[k] = true) ↔ (t[k] = true) := a.trans b.symm
  cases hx : s[k] <;> cases hy : t[k] <;> simp_all
theorem tdIn_ex (l : List Blk) : ∃ s, TdIn l s := by
  refine ⟨(List.range l.length).map (fun k => @decide (TdReach l k) (Classical.propDecidable _)), by simp, fun k hk => ?_⟩
  rw [List.getD_eq_getElem?_getD, List.getElem?_map, List.getElem?_range hk]
  simp
/-- A set of blocks from which no way leads out. -/
def TdClosed (l : List Blk) (s : List Bool) : Prop := ∀ i, s.getD i false = true → ∀ x ∈ tdTg (l.getD i blkNone).term, s.getD x.toNat false = true
theorem TdReach.closed {l : List Blk} {s : List Bool} (h0 : s.getD 0 false = true) (hc : TdClosed l s) {k : Nat} (h : TdReach l k) : s.getD k false = true := by
  exact h (fun k => s.getD k false = true) h0 (fun i x hi hx => hc i hi x hx)
theorem TdReach.lt {l : List Blk} (hl : TdOk l) (hn : 0 < l.length) {k : Nat} (h : TdReach l k) : k < l.length := by
  refine h (fun k => k < l.length) hn (fun i x hi hx => ?_)
  have := tdTg_lab (hl.at_ i hi) hx
  omega
theorem tdIn_of {l : List Blk} {s : List Bool} (hl : s.length = l.length) (h0 : s.getD 0 false = true) (hc : TdClosed l s) (hr : ∀ k, s.getD k false = true → TdReach l k) : TdIn l s :=
  ⟨hl, fun k _ => ⟨hr k, fun h => h.closed h0 hc⟩⟩
theorem flag_lt {s : List Bool} {k : Nat} (h : s.getD k false = true) : k < s.length := by
  rcases Nat.lt_or_ge k s.length with h1 | h1
  · exact h1
  · rw [List.getD_eq_getElem?_getD, List.getElem?_eq_none h1] at h; cases h
theorem TdIn.closed {l : List Blk} {s : List Bool} (hl : TdOk l) (hn : 0 < l.length) (h : TdIn l s) : TdClosed l s := fun i hi x hx => by
  have hil : i < l.length := by have := flag_lt hi; rw [h.1] at this; exact this
  have hx2 := tdTg_lab (hl.at_ i hil) hx
  exact (h.2 x.toNat (by omega)).2 (TdReach.step i x ((h.2 i hil).1 hi) hx)
theorem TdIn.zero {l : List Blk} {s : List Bool} (hn : 0 < l.length) (h : TdIn l s) : s.getD 0 false = true := (h.2 0 hn).2 TdReach.zero
/-- Sums. -/
def tdSum (f : Nat → Nat) : Nat → Nat
  | 0 => 0
  | n + 1 => tdSum f n + f n
theorem tdSum_congr {f g : Nat → Nat} : ∀ n, (∀ i, i < n → f i = g i) → tdSum f n = tdSum g n
  | 0, _ => rfl
  | n + 1, h => by
    show tdSum f n + f n = tdSum g n + g n
    rw [tdSum_congr n (fun i hi => h i (by omega)), h n (by omega)]
theorem tdSum_pull (f : Nat → Nat) (k : Nat) : ∀ n, k < n → tdSum f n = tdSum (fun i => if i = k then 0 else f i) n + f k
  | 0, h => by omega
  | n + 1, h => by
    show tdSum f n + f n = tdSum (fun i => if i = k then 0 else f i) n + (if n = k then 0 else f n) + f k
    by_cases e : n = k
    · subst e
      rw [if_pos rfl]
      have := tdSum_congr (f := f) (g := fun i => if i = n then 0 else f i) n (fun i hi => by show f i = if i = n then 0 else f i; rw [if_neg (by omega)])
      omega
    · rw [if_neg e, tdSum_pull f k n (by omega)]; omega
theorem tdSum_two {f g : Nat → Nat} {k c n : Nat} (hk : k < n) (hc : c < n) (hkc : k ≠ c) (he : ∀ i, i ≠ k → i ≠ c → f i = g i) (hs : f k + f c = g k + g c) : tdSum f n = tdSum g n := by
  have a1 := tdSum_pull f k n hk
  have a2 := tdSum_pull (fun i => if i = k then 0 else f i) c n hc
  have b1 := tdSum_pull g k n hk
  have b2 := tdSum_pull (fun i => if i = k then 0 else g i) c n hc
  have e : tdSum (fun i => if i = c then 0 else if i = k then 0 else f i) n = tdSum (fun i => if i = c then 0 else if i = k then 0 else g i) n := tdSum_congr n fun i _ => by
    by_cases h1 : i = c
    · rw [if_pos h1, if_pos h1]
    · rw [if_neg h1, if_neg h1]
      by_cases h2 : i = k
      · rw [if_pos h2, if_pos h2]
      · rw [if_neg h2, if_neg h2]; exact he i h2 h1
  simp only [if_neg (Ne.symm hkc)] at a2 b2
  omega
theorem tdSum_le {f : Nat → Nat} {k n : Nat} (hk : k < n) : f k ≤ tdSum f n := by rw [tdSum_pull f k n hk]; omega
theorem tdSum_one {f : Nat → Nat} {k n : Nat} (hk : k < n) (h1 : 0 < f k) (hs : tdSum f n = 1) : f k = 1 ∧ ∀ i, i < n → i ≠ k → f i = 0 := by
  have h2 := tdSum_le (f := f) hk
  refine ⟨by omega, fun i hi hik => ?_⟩
  have a := tdSum_pull f k n hk
  have b := tdSum_le (f := fun i => if i = k then 0 else f i) hi
  simp only [if_neg hik] at b
  omega
/-- How often block x is named by those that are there. -/
def tdNm (l : List Blk) (s : List Bool) (x : Int) (i : Nat) : Nat := if s.getD i false = true then (tdTg (l.getD i blkNone).term).count x else 0
def tdCnt (l : List Blk) (s : List Bool) (x : Int) : Nat := tdSum (tdNm l s x) l.length
/-- Is the block to which k's end jumps put behind it? -/
def tdTo (l : List Blk) (k : Nat) : Int := (l.getD k blkNone).term.yes
def tdCan (cnt : Int → Nat) (l : List Blk) (k : Nat) : Bool := decide ((l.getD k blkNone).term.kind = 1) && (!decide (tdTo l k = k) && (!decide (tdTo l k = 0) && (!decide (tdTo l k = -1) && decide (cnt (tdTo l k) = 1))))
def tdPut (l : List Blk) (k : Nat) : List Blk := l.set k ⟨(l.getD k blkNone).ops ++ (l.getD (tdTo l k).toNat blkNone).ops, (l.getD (tdTo l k).toNat blkNone).term⟩
structure TdInv (cnt : Int → Nat) (l : List Blk) (s : List Bool) : Prop where
  len : s.length = l.length
  zero : s.getD 0 false = true
  ok : TdOk l
  closed : TdClosed l s
  cnt : ∀ x, s.getD x false = true → tdCnt l s x = cnt x
theorem tdCan_of {cnt : Int → Nat} {l : List Blk} {k : Nat} (h : tdCan cnt l k = true) : (l.getD k blkNone).term.kind = 1 ∧ tdTo l k ≠ k ∧ tdTo l k ≠ 0 ∧ tdTo l k ≠ -1 ∧ cnt (tdTo l k) = 1 := by
  unfold tdCan at h
  simpa using h
theorem tdTg_jump {l : List Blk} {k : Nat} (h : (l.getD k blkNone).term.kind = 1) (h1 : tdTo l k ≠ -1) : tdTg (l.getD k blkNone).term = [tdTo l k] := by
  unfold tdTg tdOne
  rw [if_pos h]
  unfold tdTo at h1 ⊢
  rw [if_neg h1]
theorem getD_set_self' {T : Type} (l : List T) (i : Nat) (v d : T) (h : i < l.length) : (l.set i v).getD i d = v := by
  rw [List.getD_eq_getElem?_getD, List.getElem?_set_self h]; rfl
theorem getD_set_ne' {T : Type} (l : List T) (i j : Nat) (v d : T) (h : i ≠ j) : (l.set i v).getD j d = l.getD j d := by
  rw [List.getD_eq_getElem?_getD, List.getElem?_set_ne h, ← List.getD_eq_getElem?_getD]
theorem getD_setB {T : Type} (l : List T) (k i : Nat) (v d : T) (hk : k < l.length) : (l.set k v).getD i d = if i = k then v else l.getD i d := by
  by_cases e : i = k
  · subst e; rw [if_pos rfl]; exact getD_set_self' l i v d hk
  · rw [if_neg e]; exact getD_set_ne' l k i v d (fun h => e h.symm)
end Go.Proofs.Ythkobddggoojlaa
namespace Go.Proofs.Ythkobddggoojlaa
open Go.RowKit
set_option linter.unusedVariables false
theorem TdInv.only {cnt : Int → Nat} {l : List Blk} {s : List Bool} {k : Nat} (h : TdInv cnt l s) (hk : s.getD k false = true) (hc : tdCan cnt l k = true) :
    ∃ c : Nat, tdTo l k = (c : Int) ∧ c ≠ k ∧ c ≠ 0 ∧ c < l.length ∧ k < l.length ∧ s.getD c false = true ∧ tdTg (l.getD k blkNone).term = [(c : Int)] ∧ ∀ i, s.getD i false = true → i ≠ k → (c : Int) ∉ tdTg (l.getD i blkNone).term := by
  obtain ⟨h1, h2, h3, h4, h5⟩ := tdCan_of hc
  have hkl : k < l.length := by have := flag_lt hk; rw [h.len] at this; exact this
  have htg := tdTg_jump h1 h4
  have hmem : tdTo l k ∈ tdTg (l.getD k blkNone).term := by rw [htg]; simp
  have hlab := tdTg_lab (h.ok.at_ k hkl) hmem
  have hin := h.closed k hk _ hmem
  obtain ⟨c, e⟩ : ∃ c : Nat, tdTo l k = (c : Int) := ⟨(tdTo l k).toNat, by omega⟩
  rw [e] at h2 h3 h5 htg hin hlab
  simp only [Int.toNat_natCast] at hin
  have hs : tdSum (tdNm l s (c : Int)) l.length = 1 := (h.cnt c hin).trans h5
  have h1k : tdNm l s (c : Int) k = 1 := by unfold tdNm; rw [if_pos hk, htg]; simp
  obtain ⟨_, hno⟩ := tdSum_one hkl (by omega) hs
  refine ⟨c, e, by omega, by omega, by omega, hkl, hin, htg, fun i hi hik hm => ?_⟩
  have hil : i < l.length := by have := flag_lt hi; rw [h.len] at this; exact this
  have h0 := hno i hil hik
  unfold tdNm at h0
  rw [if_pos hi] at h0
  exact (List.count_eq_zero.1 h0) hm
theorem tdPut_at {l : List Blk} {k : Nat} (hk : k < l.length) (i : Nat) : (tdPut l k).getD i blkNone = if i = k then ⟨(l.getD k blkNone).ops ++ (l.getD (tdTo l k).toNat blkNone).ops, (l.getD (tdTo l k).toNat blkNone).term⟩ else l.getD i blkNone := getD_setB l k i _ blkNone hk
theorem tdPut_len (l : List Blk) (k : Nat) : (tdPut l k).length = l.length := List.length_set
theorem flag_set {s : List Bool} {c i : Nat} (hc : c < s.length) : (s.set c false).getD i false = true ↔ i ≠ c ∧ s.getD i false = true := by
  rw [getD_setB s c i false false hc]
  by_cases e : i = c
  · rw [if_pos e]; simp [e]
  · rw [if_neg e]; simp [e]
theorem TdInv.put {cnt : Int → Nat} {l : List Blk} {s : List Bool} {k : Nat} (h : TdInv cnt l s) (hk : s.getD k false = true) (hc : tdCan cnt l k = true) : TdInv cnt (tdPut l k) (s.set (tdTo l k).toNat false) := by
  obtain ⟨c, e, hck, hc0, hcl, hkl, hcs, htg, hno⟩ := h.only hk hc
  have hat := tdPut_at (l := l) hkl
  rw [e, Int.toNat_natCast] at hat ⊢
  have hcl2 : c < s.length := by rw [h.len]; exact hcl
  have hcc : (c : Int) ∉ tdTg (l.getD c blkNone).term := hno c hcs hck
  refine ⟨by rw [List.length_set, tdPut_len]; exact h.len, (flag_set hcl2).2 ⟨fun h => hc0 h.symm, h.zero⟩, ?_, ?_, ?_⟩
  · intro b hb
    rw [tdPut_len]
    unfold tdPut at hb
    rcases List.mem_or_eq_of_mem_set hb with hb | rfl
    · exact h.ok b hb
    · rw [e]; exact h.ok.at_ c hcl
  · intro i hi x hx
    obtain ⟨hic, his⟩ := (flag_set hcl2).1 hi
    rw [hat] at hx
    have key : ∀ j, s.getD j false = true → x ∈ tdTg (l.getD j blkNone).term → (c : Int) ∉ tdTg (l.getD j blkNone).term → (s.set c false).getD x.toNat false = true := fun j hj hxj hcj => by
      have hjl : j < l.length := by have := flag_lt hj; rw [h.len] at this; exact this
      have hlab := tdTg_lab (h.ok.at_ j hjl) hxj
      refine (flag_set hcl2).2 ⟨fun he => hcj ?_, h.closed j hj x hxj⟩
      have : x = (c : Int) := by omega
      rw [← this]; exact hxj
    by_cases hik : i = k
    · rw [if_pos hik] at hx
      exact key c hcs hx hcc
    · rw [if_neg hik] at hx
      exact key i his hx (hno i his hik)
  · intro x hx
    obtain ⟨hxc, hxs⟩ := (flag_set hcl2).1 hx
    rw [← h.cnt x hxs]
    unfold tdCnt
    rw [tdPut_len]
    refine (tdSum_two (k := k) (c := c) hkl hcl (fun h => hck h.symm) (fun i hik hic => ?_) ?_).symm
    · unfold tdNm
      rw [hat, if_neg hik, getD_setB s c i false false hcl2, if_neg hic]
    · unfold tdNm
      have hx0 : List.count (x : Int) [(c : Int)] = 0 := by
        rw [List.count_eq_zero]; simp; omega
      have hkc : ¬ k = c := fun h => hck h.symm
      rw [hat, hat, if_pos rfl, if_neg hck, getD_setB s c k false false hcl2, getD_setB s c c false false hcl2, htg, hx0]
      simp only [if_neg hkc, hk, hcs, if_true, eq_self, Bool.false_eq_true, if_false, Nat.zero_add, Nat.add_zero]
/-- All that may be put behind block k. -/
def tdGo (cnt : Int → Nat) : Nat → List Blk × List Bool → Nat → List Blk × List Bool
  | 0, z, _ => z
  | f + 1, z, k => if tdCan cnt z.1 k = true then tdGo cnt f (tdPut z.1 k, z.2.set (tdTo z.1 k).toNat false) k else z
def tdJoinTo (cnt : Int → Nat) (z : List Blk × List Bool) : Nat → List Blk × List Bool
  | 0 => z
  | m + 1 => if (tdJoinTo cnt z m).2.getD m false = true then tdGo cnt (tdTrues (tdJoinTo cnt z m).2) (tdJoinTo cnt z m) m else tdJoinTo cnt z m
theorem tdGo_end {cnt : Int → Nat} {z : List Blk × List Bool} {k : Nat} (h : tdCan cnt z.1 k = false) : ∀ f, tdGo cnt f z k = z
  | 0 => rfl
  | f + 1 => by unfold tdGo; rw [h]; rfl
theorem TdInv.trues {cnt : Int → Nat} {l : List Blk} {s : List Bool} {k : Nat} (h : TdInv cnt l s) (hk : s.getD k false = true) (hc : tdCan cnt l k = true) : tdTrues s = tdTrues (s.set (tdTo l k).toNat false) + 1 := by
  obtain ⟨c, e, _, _, hcl, _, hcs, _, _⟩ := h.only hk hc
  rw [e, Int.toNat_natCast]
  exact (tdTrues_clear s c (by rw [h.len]; exact hcl) hcs).symm
theorem tdGo_step {cnt : Int → Nat} {l : List Blk} {s : List Bool} {k : Nat} (h : TdInv cnt l s) (hk : s.getD k false = true) (hc : tdCan cnt l k = true) :
    tdGo cnt (tdTrues s) (l, s) k = tdGo cnt (tdTrues (s.set (tdTo l k).toNat false)) (tdPut l k, s.set (tdTo l k).toNat false) k := by
  rw [h.trues hk hc]
  show (if tdCan cnt l k = true then _ else _) = _
  rw [if_pos hc]
theorem TdInv.keep {cnt : Int → Nat} {l : List Blk} {s : List Bool} {k : Nat} (h : TdInv cnt l s) (hk : s.getD k false = true) (hc : tdCan cnt l k = true) : (s.set (tdTo l k).toNat false).getD k false = true := by
  obtain ⟨c, e, hck, _, hcl, _, _, _, _⟩ := h.only hk hc
  rw [e, Int.toNat_natCast]
  exact (flag_set (by rw [h.len]; exact hcl)).2 ⟨fun h => hck h.symm, hk⟩
/-- What holds of the blocks and stays while a block is put behind another. -/
theorem tdGo_all {cnt : Int → Nat} {k : Nat} (Q : List Blk × List Bool → Prop) (hQ : ∀ l s, TdInv cnt l s → s.getD k false = true → tdCan cnt l k = true → Q (l, s) → Q (tdPut l k, s.set (tdTo l k).toNat false)) :
    ∀ (f : Nat) (l : List Blk) (s : List Bool), f = tdTrues s → TdInv cnt l s → s.getD k false = true → Q (l, s) →
      TdInv cnt (tdGo cnt f (l, s) k).1 (tdGo cnt f (l, s) k).2 ∧ (tdGo cnt f (l, s) k).2.getD k false = true ∧ tdCan cnt (tdGo cnt f (l, s) k).1 k = false ∧ Q (tdGo cnt f (l, s) k)
  | 0, l, s, hf, hi, hk, _ => by
    exfalso
    have := tdTrues_clear s k (flag_lt hk) hk
    omega
  | f + 1, l, s, hf, hi, hk, hq => by
    cases hc : tdCan cnt l k with
    | false =>
      rw [tdGo_end (z := (l, s)) hc]
      exact ⟨hi, hk, hc, hq⟩
    | true =>
      have e : tdGo cnt (f + 1) (l, s) k = tdGo cnt f (tdPut l k, s.set (tdTo l k).toNat false) k := by
        show (if tdCan cnt l k = true then _ else _) = _
        rw [if_pos hc]
      rw [e]
      have ht := hi.trues hk hc
      exact tdGo_all Q hQ f _ _ (by omega) (hi.put hk hc) (hi.keep hk hc) (hQ l s hi hk hc hq)
theorem tdJoin_all {cnt : Int → Nat} (Q : Nat → List Blk × List Bool → Prop) (l : List Blk) (s : List Bool) (hi : TdInv cnt l s) (h0 : Q 0 (l, s))
    (hs : ∀ m z, Q m z → z.2.getD m false = false → Q (m + 1) z)
    (hp : ∀ m l s, TdInv cnt l s → s.getD m false = true → tdCan cnt l m = true → Q m (l, s) → Q m (tdPut l m, s.set (tdTo l m).toNat false))
    (he : ∀ m l s, TdInv cnt l s → s.getD m false = true → tdCan cnt l m = false → Q m (l, s) → Q (m + 1) (l, s)) :
    ∀ m, TdInv cnt (tdJoinTo cnt (l, s) m).1 (tdJoinTo cnt (l, s) m).2 ∧ Q m (tdJoinTo cnt (l, s) m)
  | 0 => ⟨hi, h0⟩
  | m + 1 => by
    obtain ⟨h1, h2⟩ := tdJoin_all Q l s hi h0 hs hp he m
    show TdInv cnt (if (tdJoinTo cnt (l, s) m).2.getD m false = true then tdGo cnt (tdTrues (tdJoinTo cnt (l, s) m).2) (tdJoinTo cnt (l, s) m) m else tdJoinTo cnt (l, s) m).1 (if (tdJoinTo cnt (l, s) m).2.getD m false = true then tdGo cnt (tdTrues (tdJoinTo cnt (l, s) m).2) (tdJoinTo cnt (l, s) m) m else tdJoinTo cnt (l, s) m).2 ∧ Q (m + 1) (if (tdJoinTo cnt (l, s) m).2.getD m false = true then tdGo cnt (tdTrues (tdJoinTo cnt (l, s) m).2) (tdJoinTo cnt (l, s) m) m else tdJoinTo cnt (l, s) m)
    generalize tdJoinTo cnt (l, s) m = z at *
    obtain ⟨l', s'⟩ := z
    by_cases hm : s'.getD m false = true
    · simp only [if_pos hm]
      obtain ⟨a, b, c, d⟩ := tdGo_all (cnt := cnt) (k := m) (Q m) (fun l s => hp m l s) (tdTrues s') l' s' rfl h1 hm h2
      exact ⟨a, he m _ _ a b c d⟩
    · simp only [if_neg hm]
      exact ⟨h1, hs m _ h2 (by simpa using hm)⟩
/-- The blocks that are there, numbered anew. -/
def tdRank (s : List Bool) (k : Nat) : Nat := (s.take k).count true
def tdNum (s : List Bool) (k : Int) : Int := if k = -1 then -1 else (tdRank s k.toNat : Int)
def tdOut (l : List Blk) (s : List Bool) : Nat → List Blk
  | 0 => []
  | m + 1 => tdOut l s m ++ (if s.getD m false = true then [⟨(l.getD m blkNone).ops, tdNam (tdNum s) (l.getD m blkNone).term⟩] else [])
def tdStr (l : List Blk) : List Blk := l.map fun b => ⟨b.ops, tdNam (tdLeads l) b.term⟩
def tdZ (p : Ir) (s : List Bool) : List Blk × List Bool := tdJoinTo (tdCnt (tdStr p.blocks) s) (tdStr p.blocks, s) p.blocks.length
def tdIr (p : Ir) (s : List Bool) : Ir := ⟨p.temps, p.arrays, tdOut (tdZ p s).1 (tdZ p s).2 p.blocks.length, p.inp, p.out⟩
theorem tdRank_succ (s : List Bool) (k : Nat) (hk : k < s.length) : tdRank s (k + 1) = tdRank s k + (if s.getD k false = true then 1 else 0) := by
  unfold tdRank
  rw [take_succ_getD s k false hk, List.count_append]
  cases s.getD k false <;> simp
theorem tdRank_len (s : List Bool) : tdRank s s.length = tdTrues s := by unfold tdRank tdTrues; rw [List.take_length]
theorem tdOut_len (l : List Blk) (s : List Bool) : ∀ m, m ≤ s.length → (tdOut l s m).length = tdRank s m
  | 0, _ => rfl
  | m + 1, h => by
    rw [tdRank_succ s m (by omega)]
    show (tdOut l s m ++ _).length = _
    rw [List.length_append, tdOut_len l s m (by omega)]
    split <;> rfl
end Go.Proofs.Ythkobddggoojlaa
namespace Go.Proofs.Ythkobddggoojlaa
open Go.RowKit
set_option linter.unusedVariables false
theorem tdLab_zero {n : Nat} {k : Int} (h : tdLab n k) (hk : k ≠ -1) : 0 ≤ k ∧ k < n := by unfold tdLab at h; omega
theorem tdStop_false {l : List Blk} {k : Int} (h : tdStop l k = false) : k ≠ -1 ∧ tdDet (tdAt l k) = true := by
  unfold tdStop at h
  simpa using h
theorem tdDet_true {b : Blk} (h : tdDet b = true) : b.ops = [] ∧ b.term.kind = 1 := by
  unfold tdDet at h
  simpa using h
theorem tdDet_of {b : Blk} (h1 : b.ops = []) (h2 : b.term.kind = 1) : tdDet b = true := by unfold tdDet; rw [h1, h2]; rfl
theorem tdAt_mem {l : List Blk} {k : Int} (h0 : 0 ≤ k) (h1 : k < l.length) : tdAt l k ∈ l := getD_memI l k.toNat blkNone (by omega)
theorem tdStep_lab {l : List Blk} (hl : TdOk l) {k : Int} (h : tdLab l.length k) : tdLab l.length (tdStep l k) := by
  cases hs : tdStop l k with
  | true => rw [tdStep_stop hs]; exact h
  | false =>
    rw [tdStep_go hs]
    obtain ⟨h1, h2⟩ := tdStop_false hs
    obtain ⟨_, hk⟩ := tdDet_true h2
    obtain ⟨a, b⟩ := tdLab_zero h h1
    rcases hl _ (tdAt_mem a b) with ⟨_, h3⟩ | ⟨h3, _⟩ | h3
    · exact h3
    · omega
    · omega
theorem tdPath_lab {l : List Blk} (hl : TdOk l) {k : Int} (h : tdLab l.length k) : ∀ n, tdLab l.length (tdPath l n k)
  | 0 => h
  | n + 1 => tdStep_lab hl (tdPath_lab hl h n)
theorem tdLeads_lab {l : List Blk} (hl : TdOk l) {k : Int} (h : tdLab l.length k) : tdLab l.length (tdLeads l k) := by
  unfold tdLeads
  split
  · exact tdPath_lab hl h _
  · exact h
theorem tdNam_ok {n m : Nat} {g : Int → Int} (hg : ∀ k, tdLab n k → tdLab m (g k)) {t : Trm} (h : tdOkT n t) : tdOkT m (tdNam g t) := by
  unfold tdNam
  rcases h with ⟨hk, h1⟩ | ⟨hk, h1, h2⟩ | hk
  · rw [if_pos hk]; exact Or.inl ⟨rfl, hg _ h1⟩
  · rw [if_neg (by omega), if_pos hk]; exact Or.inr (Or.inl ⟨rfl, hg _ h1, hg _ h2⟩)
  · rw [if_neg (by omega), if_neg (by omega)]; exact Or.inr (Or.inr hk)
theorem tdNam_kind (g : Int → Int) (t : Trm) : (tdNam g t).kind = t.kind := by
  unfold tdNam
  split
  · rename_i h; exact h.symm
  · split
    · rename_i h; exact h.symm
    · rfl
theorem tdNam_yes {g : Int → Int} {t : Trm} (h : t.kind = 1) : (tdNam g t).yes = g t.yes := by unfold tdNam; rw [if_pos h]
theorem tdStr_len (l : List Blk) : (tdStr l).length = l.length := List.length_map ..
theorem tdStr_at (l : List Blk) (k : Nat) (hk : k < l.length) : (tdStr l).getD k blkNone = ⟨(l.getD k blkNone).ops, tdNam (tdLeads l) (l.getD k blkNone).term⟩ := by
  unfold tdStr
  rw [List.getD_eq_getElem?_getD, List.getElem?_map, List.getD_eq_getElem?_getD, List.getElem?_eq_getElem hk]; rfl
theorem tdStr_ok {l : List Blk} (hl : TdOk l) : TdOk (tdStr l) := by
  intro b hb
  obtain ⟨c, hc, rfl⟩ := List.mem_map.1 hb
  rw [tdStr_len]
  exact tdNam_ok (fun k hk => tdLeads_lab hl hk) (hl c hc)
theorem tdStr_det (l : List Blk) {k : Int} (h0 : 0 ≤ k) (h1 : k < l.length) : tdDet (tdAt (tdStr l) k) = tdDet (tdAt l k) := by
  unfold tdAt
  rw [tdStr_at l k.toNat (by omega)]
  unfold tdDet
  rw [tdNam_kind]
theorem tdStr_stop (l : List Blk) {k : Int} (h : tdLab l.length k) : tdStop (tdStr l) k = tdStop l k := by
  unfold tdStop
  by_cases hk : k = -1
  · rw [decide_eq_true hk]; rfl
  · obtain ⟨a, b⟩ := tdLab_zero h hk
    rw [tdStr_det l a b]
/-- A way of which all that comes up keeps to a set. -/
theorem tdPath_set {l : List Blk} (S : Int → Prop) (hS : ∀ y, S y → tdStop l y = false ∧ S (tdNext l y)) {x : Int} (hx : S x) : ∀ m, S (tdPath l m x) ∧ tdStop l (tdPath l m x) = false
  | 0 => ⟨hx, (hS x hx).1⟩
  | m + 1 => by
    obtain ⟨h1, h2⟩ := tdPath_set S hS hx m
    have h3 : tdPath l (m + 1) x = tdNext l (tdPath l m x) := by rw [tdPath_succ, tdStep_go h2]
    rw [h3]
    exact ⟨(hS _ h1).2, (hS _ (hS _ h1).2).1⟩
def TdRing (l : List Blk) (x : Int) : Prop := ∀ m, tdStop l (tdPath l m x) = false
theorem TdRing.next {l : List Blk} {x : Int} (h : TdRing l x) : tdStop l x = false ∧ TdRing l (tdNext l x) := by
  have h0 : tdStop l x = false := h 0
  refine ⟨h0, fun m => ?_⟩
  have := h (1 + m)
  rw [tdPath_add] at this
  have e : tdPath l 1 x = tdNext l x := by rw [tdPath_succ]; exact tdStep_go h0
  rw [e] at this
  exact this
/-- A block that may be named: no detour, or of a ring. -/
def tdFix (l : List Blk) (x : Int) : Prop := tdStop l x = true ∨ TdRing l x
theorem tdLeads_fix {l : List Blk} {x : Int} (h : tdFix l x) : tdLeads l x = x := by
  rcases h with h | h
  · exact tdLeads_stop (m := 0) (Nat.zero_le _) h
  · exact tdLeads_ring h
/-- Where a way stops at all, it does so within as many steps as there are blocks. -/
theorem td_within {l : List Blk} (hl : TdOk l) {x : Int} (hx : tdLab l.length x) : ∀ j, (∀ i, i < j → tdStop l (tdPath l i x) = false) → (∃ s, TdSeen l x j s) ∨ TdRing l x
  | 0, _ => Or.inl ⟨_, TdSeen.start l x⟩
  | j + 1, h => by
    rcases td_within hl hx j (fun i hi => h i (by omega)) with ⟨s, hs⟩ | hr
    · have h1 := h j (by omega)
      obtain ⟨h2, _⟩ := tdStop_false h1
      obtain ⟨a, b⟩ := tdLab_zero (tdPath_lab hl hx j) h2
      cases hm : s.getD (tdPath l j x).toNat false with
      | false => exact Or.inl ⟨_, hs.step a b h1 hm⟩
      | true =>
        obtain ⟨i, hi, he, hp⟩ := hs.mark _ hm
        exact Or.inr (tdPath_ring hi (by omega) h1)
    · exact Or.inr hr
theorem tdLeads_cases {l : List Blk} (hl : TdOk l) {x : Int} (hx : tdLab l.length x) : tdStop l (tdLeads l x) = true ∨ (TdRing l x ∧ tdLeads l x = x) := by
  by_cases h : tdStop l (tdPath l l.length x) = true
  · left
    unfold tdLeads
    rw [if_pos h]; exact h
  · have h : tdStop l (tdPath l l.length x) = false := by simpa using h
    have hall : ∀ i, i < l.length + 1 → tdStop l (tdPath l i x) = false := fun i hi => by
      cases hs : tdStop l (tdPath l i x) with
      | false => rfl
      | true => rw [tdPath_stay hs (show i ≤ l.length by omega), hs] at h; cases h
    rcases td_within hl hx (l.length + 1) hall with ⟨s, hs⟩ | hr
    · have := hs.le; omega
    · exact Or.inr ⟨hr, tdLeads_ring hr⟩
theorem tdStr_next (l : List Blk) {k : Int} (h0 : 0 ≤ k) (h1 : k < l.length) (hk : (tdAt l k).term.kind = 1) : tdNext (tdStr l) k = tdLeads l (tdNext l k) := by
  unfold tdNext
  have e : tdAt (tdStr l) k = ⟨(tdAt l k).ops, tdNam (tdLeads l) (tdAt l k).term⟩ := tdStr_at l k.toNat (by omega)
  rw [e]
  exact tdNam_yes hk
theorem tdNext_lab {l : List Blk} (hl : TdOk l) {k : Int} (h : tdLab l.length k) (hs : tdStop l k = false) : tdLab l.length (tdNext l k) := by
  have := tdStep_lab hl h
  rw [tdStep_go hs] at this
  exact this
theorem tdRing_str {l : List Blk} (hl : TdOk l) {x : Int} (hx : tdLab l.length x) (h : TdRing l x) : TdRing (tdStr l) x := by
  refine fun m => (tdPath_set (fun y => tdLab l.length y ∧ TdRing l y) (fun y hy => ?_) ⟨hx, h⟩ m).2
  obtain ⟨hy1, hy2⟩ := hy
  obtain ⟨h1, h2⟩ := hy2.next
  obtain ⟨h3, h4⟩ := tdStop_false h1
  obtain ⟨a, b⟩ := tdLab_zero hy1 h3
  have e := tdStr_next l a b (tdDet_true h4).2
  rw [tdLeads_ring h2] at e
  rw [tdStr_stop l hy1, e]
  exact ⟨h1, tdNext_lab hl hy1 h1, h2⟩
theorem tdStr_fix {l : List Blk} (hl : TdOk l) {x : Int} (hx : tdLab l.length x) : tdFix (tdStr l) (tdLeads l x) := by
  rcases tdLeads_cases hl hx with h | ⟨h, e⟩
  · left; rw [tdStr_stop l (tdLeads_lab hl hx)]; exact h
  · right; rw [e]; exact tdRing_str hl hx h
/-- No block that is there names a detour, but of rings. -/
def TdGood (l : List Blk) (s : List Bool) : Prop := ∀ i, s.getD i false = true → ∀ x ∈ tdTg (l.getD i blkNone).term, tdFix l x
theorem tdOne_nam {g : Int → Int} {n : Nat} {k x : Int} (h : tdLab n k) (hg : g (-1) = -1) (hx : x ∈ tdOne (g k)) : ∃ y, tdLab n y ∧ x = g y ∧ y ∈ tdOne k := by
  refine ⟨k, h, ?_, ?_⟩
  · unfold tdOne at hx
    split at hx
    · cases hx
    · exact List.mem_singleton.1 hx
  · unfold tdOne at hx ⊢
    by_cases e : k = -1
    · rw [e, hg, if_pos rfl] at hx; cases hx
    · rw [if_neg e]; simp
theorem tdTg_nam {g : Int → Int} {n : Nat} {t : Trm} (h : tdOkT n t) (hg : g (-1) = -1) {x : Int} (hx : x ∈ tdTg (tdNam g t)) : ∃ y, tdLab n y ∧ x = g y ∧ y ∈ tdTg t := by
  unfold tdTg at hx ⊢
  rw [tdNam_kind] at hx
  rcases h with ⟨hk, h1⟩ | ⟨hk, h1, h2⟩ | hk
  · rw [if_pos hk] at hx ⊢
    unfold tdNam at hx
    rw [if_pos hk] at hx
    exact tdOne_nam h1 hg hx
  · have hk1 : ¬ t.kind = 1 := by omega
    rw [if_neg hk1, if_pos hk] at hx ⊢
    unfold tdNam at hx
    rw [if_neg hk1, if_pos hk] at hx
    rcases List.mem_append.1 hx with hx | hx
    · obtain ⟨y, a, b, c⟩ := tdOne_nam h1 hg hx
      exact ⟨y, a, b, List.mem_append_left _ c⟩
    · obtain ⟨y, a, b, c⟩ := tdOne_nam h2 hg hx
      exact ⟨y, a, b, List.mem_append_right _ c⟩
  · rw [if_neg (by omega), if_neg (by omega)] at hx; cases hx
theorem tdLeads_none (l : List Blk) : tdLeads l (-1) = -1 := tdLeads_fix (Or.inl rfl)
theorem tdStr_good {l : List Blk} (hl : TdOk l) (s : List Bool) (hs : s.length = l.length) : TdGood (tdStr l) s := by
  intro i hi x hx
  have hil : i < l.length := by have := flag_lt hi; rw [hs] at this; exact this
  rw [tdStr_at l i hil] at hx
  obtain ⟨y, hy, rfl, _⟩ := tdTg_nam (hl.at_ i hil) (tdLeads_none l) hx
  exact tdStr_fix hl hy
theorem TdGood.put {cnt : Int → Nat} {l : List Blk} {s : List Bool} {k : Nat} (h : TdInv cnt l s) (hg : TdGood l s) (hk : s.getD k false = true) (hc : tdCan cnt l k = true) : TdGood (tdPut l k) (s.set (tdTo l k).toNat false) := by
  obtain ⟨c, e, hck, hc0, hcl, hkl, hcs, htg, hno⟩ := h.only hk hc
  have hk1 := (tdCan_of hc).1
  have hat := tdPut_at (l := l) hkl
  rw [e, Int.toNat_natCast] at hat ⊢
  have hcl2 : c < s.length := by rw [h.len]; exact hcl
  have hcc : (c : Int) ∉ tdTg (l.getD c blkNone).term := hno c hcs hck
  -- whatever is named by a block that is there stays such
  have key : ∀ j x, s.getD j false = true → x ∈ tdTg (l.getD j blkNone).term → (c : Int) ∉ tdTg (l.getD j blkNone).term → tdFix (tdPut l k) x := fun j x hj hxj hcj => by
    have hjl : j < l.length := by have := flag_lt hj; rw [h.len] at this; exact this
    have hlab := tdTg_lab (h.ok.at_ j hjl) hxj
    have hxc : x ≠ (c : Int) := fun e => hcj (e ▸ hxj)
    have hxs := h.closed j hj x hxj
    have hdk : ∀ y : Int, 0 ≤ y → y ≠ -1 := fun y hy => by omega
    have hstop : ∀ y : Int, 0 ≤ y → tdStop l y = !tdDet (tdAt l y) := fun y hy => by unfold tdStop; rw [decide_eq_false (hdk y hy)]; rfl
    have hstop2 : ∀ y : Int, 0 ≤ y → tdStop (tdPut l k) y = !tdDet (tdAt (tdPut l k) y) := fun y hy => by unfold tdStop; rw [decide_eq_false (hdk y hy)]; rfl
    have hat2 : ∀ y : Int, tdAt (tdPut l k) y = if y.toNat = k then ⟨(l.getD k blkNone).ops ++ (l.getD c blkNone).ops, (l.getD c blkNone).term⟩ else tdAt l y := fun y => hat y.toNat
    rcases hg j hj x hxj with h1 | h1
    · left
      rw [hstop x hlab.1] at h1
      rw [hstop2 x hlab.1, hat2]
      by_cases hxk : x.toNat = k
      · rw [if_pos hxk]
        have h2 : tdDet (tdAt l x) = false := by simpa using h1
        have h3 : (l.getD k blkNone).ops ≠ [] := fun h4 => by
          have h5 : tdAt l x = l.getD k blkNone := by unfold tdAt; rw [hxk]
          rw [h5, tdDet_of h4 hk1] at h2
          cases h2
        unfold tdDet
        cases ho : (l.getD k blkNone).ops with
        | nil => exact absurd ho h3
        | cons a b => rfl
      · rw [if_neg hxk]; exact h1
    · right
      refine fun m => (tdPath_set (fun y => TdRing l y ∧ 0 ≤ y ∧ y < l.length ∧ s.getD y.toNat false = true ∧ y ≠ (c : Int)) (fun y hy => ?_) ⟨h1, hlab.1, hlab.2, hxs, hxc⟩ m).2
      obtain ⟨hy1, hy2, hy3, hy4, hy5⟩ := hy
      obtain ⟨n1, n2⟩ := hy1.next
      have hyd := (tdStop_false n1).2
      obtain ⟨ho, ht⟩ := tdDet_true hyd
      have hnl := tdNext_lab h.ok ⟨by omega, hy3⟩ n1
      have hn1 : tdNext l y ≠ -1 := (tdStop_false n2.next.1).1
      obtain ⟨na, nb⟩ := tdLab_zero hnl hn1
      have hymem : tdNext l y ∈ tdTg (l.getD y.toNat blkNone).term := by
        unfold tdTg
        rw [if_pos (show (l.getD y.toNat blkNone).term.kind = 1 from ht)]
        unfold tdOne
        rw [if_neg (show ¬ (l.getD y.toNat blkNone).term.yes = -1 from hn1)]
        exact List.mem_singleton.2 rfl
      have hns := h.closed y.toNat hy4 _ hymem
      by_cases hyk : y.toNat = k
      · -- behind k comes what came behind c
        have hyl : tdAt l y = l.getD k blkNone := by unfold tdAt; rw [hyk]
        have hnc : tdNext l y = (c : Int) := by rw [← e]; unfold tdNext tdTo; rw [hyl]
        rw [hnc] at n2
        obtain ⟨c1, c2⟩ := n2.next
        obtain ⟨co, ct⟩ := tdDet_true (tdStop_false c1).2
        have hcat : tdAt l (c : Int) = l.getD c blkNone := rfl
        have hcn1 : tdNext l (c : Int) ≠ -1 := (tdStop_false c2.next.1).1
        have hcl3 := tdNext_lab h.ok (show tdLab l.length (c : Int) by unfold tdLab; omega) c1
        obtain ⟨ca, cb⟩ := tdLab_zero hcl3 hcn1
        have hcmem : tdNext l (c : Int) ∈ tdTg (l.getD c blkNone).term := by
          unfold tdTg
          rw [if_pos (show (l.getD c blkNone).term.kind = 1 from ct)]
          unfold tdOne
          rw [if_neg (show ¬ (l.getD c blkNone).term.yes = -1 from hcn1)]
          exact List.mem_singleton.2 rfl
        have e2 : tdAt (tdPut l k) y = ⟨(l.getD k blkNone).ops ++ (l.getD c blkNone).ops, (l.getD c blkNone).term⟩ := by rw [hat2, if_pos hyk]
        rw [hyl] at ho
        have e3 : tdNext (tdPut l k) y = tdNext l (c : Int) := by unfold tdNext; rw [e2]; rfl
        refine ⟨?_, ?_⟩
        · have hd : tdDet (⟨(l.getD k blkNone).ops ++ (l.getD c blkNone).ops, (l.getD c blkNone).term⟩ : Blk) = true := tdDet_of (by show (l.getD k blkNone).ops ++ (l.getD c blkNone).ops = []; rw [ho]; exact co) ct
          rw [hstop2 y hy2, e2, hd]; rfl
        · rw [e3]
          exact ⟨c2, ca, cb, h.closed c hcs _ hcmem, fun h6 => hcc (h6 ▸ hcmem)⟩
      · have e2 : tdAt (tdPut l k) y = tdAt l y := by rw [hat2, if_neg hyk]
        have e3 : tdNext (tdPut l k) y = tdNext l y := by unfold tdNext; rw [e2]
        refine ⟨?_, ?_⟩
        · rw [hstop2 y hy2, e2, hyd]; rfl
        · rw [e3]
          exact ⟨n2, na, nb, hns, fun h6 => hno y.toNat hy4 hyk (h6 ▸ hymem)⟩
  intro i hi x hx
  obtain ⟨hic, his⟩ := (flag_set hcl2).1 hi
  rw [hat] at hx
  by_cases hik : i = k
  · rw [if_pos hik] at hx
    exact key c x hcs hx hcc
  · rw [if_neg hik] at hx
    exact key i x his hx (hno i his hik)
end Go.Proofs.Ythkobddggoojlaa
namespace Go.Proofs.Ythkobddggoojlaa
open Go.RowKit
set_option linter.unusedVariables false
theorem TdReach.put {cnt : Int → Nat} {l : List Blk} {s : List Bool} {k : Nat} (h : TdInv cnt l s) (hr : ∀ i, s.getD i false = true → TdReach l i) (hk : s.getD k false = true) (hc : tdCan cnt l k = true) :
    ∀ i, (s.set (tdTo l k).toNat false).getD i false = true → TdReach (tdPut l k) i := by
  obtain ⟨c, e, hck, hc0, hcl, hkl, hcs, htg, hno⟩ := h.only hk hc
  have hat := tdPut_at (l := l) hkl
  rw [e, Int.toNat_natCast] at hat ⊢
  have hcl2 : c < s.length := by rw [h.len]; exact hcl
  intro i hi
  obtain ⟨hic, his⟩ := (flag_set hcl2).1 hi
  have key := hr i his (fun j => s.getD j false = true ∧ (j = c → TdReach (tdPut l k) k) ∧ (j ≠ c → TdReach (tdPut l k) j)) ⟨h.zero, fun h0 => absurd h0.symm hc0, fun _ => TdReach.zero⟩ (fun j x hj hx => ?_)
  · exact key.2.2 hic
  · obtain ⟨hjs, hj1, hj2⟩ : s.getD j false = true ∧ (j = c → TdReach (tdPut l k) k) ∧ (j ≠ c → TdReach (tdPut l k) j) := hj
    have hxs := h.closed j hjs x hx
    have hjl : j < l.length := by have := flag_lt hjs; rw [h.len] at this; exact this
    have hlab := tdTg_lab (h.ok.at_ j hjl) hx
    have hxn : (c : Int) ∉ tdTg (l.getD j blkNone).term → x.toNat ≠ c := by
      intro hn he
      have h9 : x = (c : Int) := by omega
      exact hn (h9 ▸ hx)
    by_cases hjc : j = c
    · subst hjc
      have h1 := hj1 rfl
      have h2 : x ∈ tdTg ((tdPut l k).getD k blkNone).term := by rw [hat, if_pos rfl]; exact hx
      have h3 := TdReach.step k x h1 h2
      exact ⟨hxs, fun he => absurd he (hxn (hno j hcs hck)), fun _ => h3⟩
    · by_cases hjk : j = k
      · subst hjk
        rw [htg] at hx
        obtain rfl := List.mem_singleton.1 hx
        exact ⟨hxs, fun _ => hj2 hjc, fun hn => absurd (by simp) hn⟩
      · have h2 : x ∈ tdTg ((tdPut l k).getD j blkNone).term := by rw [hat, if_neg hjk]; exact hx
        exact ⟨hxs, fun he => absurd he (hxn (hno j hjs hjk)), fun _ => TdReach.step j x (hj2 hjc) h2⟩
/-- Ranks. -/
theorem tdRank_le (s : List Bool) : ∀ d k, tdRank s k ≤ tdRank s (k + d)
  | 0, k => Nat.le_refl _
  | d + 1, k => by
    refine Nat.le_trans (tdRank_le s d k) ?_
    rcases Nat.lt_or_ge (k + d) s.length with h | h
    · rw [show k + (d + 1) = (k + d) + 1 from rfl, tdRank_succ s (k + d) h]; omega
    · unfold tdRank
      rw [List.take_of_length_le h, List.take_of_length_le (by omega)]; exact Nat.le_refl _
theorem tdRank_lt {s : List Bool} {k m : Nat} (hk : s.getD k false = true) (hm : k < m) : tdRank s k < tdRank s m := by
  have h1 := tdRank_succ s k (flag_lt hk)
  rw [if_pos hk] at h1
  obtain ⟨d, rfl⟩ := Nat.exists_eq_add_of_le hm
  have h2 : tdRank s (k + 1) ≤ tdRank s (k.succ + d) := tdRank_le s d (k + 1)
  omega
theorem tdRank_inj {s : List Bool} {k m : Nat} (hk : s.getD k false = true) (hm : s.getD m false = true) (h : tdRank s k = tdRank s m) : k = m := by
  rcases Nat.lt_trichotomy k m with h1 | h1 | h1
  · have := tdRank_lt hk h1; omega
  · exact h1
  · have := tdRank_lt hm h1; omega
theorem tdRank_all {s : List Bool} {k : Nat} (hk : s.getD k false = true) : tdRank s k < tdTrues s := by
  rw [← tdRank_len]; exact tdRank_lt hk (flag_lt hk)
theorem tdRank_onto (s : List Bool) : ∀ m, m ≤ s.length → ∀ i, i < tdRank s m → ∃ k, k < m ∧ s.getD k false = true ∧ tdRank s k = i
  | 0, _, i, h => by unfold tdRank at h; simp at h
  | m + 1, hm, i, h => by
    rw [tdRank_succ s m (by omega)] at h
    by_cases hi : i < tdRank s m
    · obtain ⟨k, a, b, c⟩ := tdRank_onto s m (by omega) i hi
      exact ⟨k, by omega, b, c⟩
    · by_cases hs : s.getD m false = true
      · rw [if_pos hs] at h
        exact ⟨m, by omega, hs, by omega⟩
      · rw [if_neg hs] at h; omega
theorem tdOut_at (l : List Blk) (s : List Bool) : ∀ m, m ≤ s.length → ∀ k, k < m → s.getD k false = true → (tdOut l s m).getD (tdRank s k) blkNone = ⟨(l.getD k blkNone).ops, tdNam (tdNum s) (l.getD k blkNone).term⟩
  | 0, _, k, hk, _ => by omega
  | m + 1, hm, k, hk, hs => by
    have hlen := tdOut_len l s m (by omega)
    show (tdOut l s m ++ _).getD (tdRank s k) blkNone = _
    by_cases e : k = m
    · subst e
      rw [if_pos hs, List.getD_eq_getElem?_getD, List.getElem?_append_right (by omega), hlen, Nat.sub_self]; rfl
    · have h1 : tdRank s k < tdRank s m := tdRank_lt hs (by omega)
      rw [List.getD_eq_getElem?_getD, List.getElem?_append_left (by omega), ← List.getD_eq_getElem?_getD]
      exact tdOut_at l s m (by omega) k (by omega) hs
theorem tdNum_none (s : List Bool) : tdNum s (-1) = -1 := rfl
theorem tdNum_of {s : List Bool} {x : Int} (h : 0 ≤ x) : tdNum s x = (tdRank s x.toNat : Int) := by unfold tdNum; rw [if_neg (by omega)]
theorem tdOne_num {s : List Bool} {n : Nat} {k : Int} (h : tdLab n k) : tdOne (tdNum s k) = (tdOne k).map (tdNum s) := by
  unfold tdOne
  by_cases e : k = -1
  · subst e; rfl
  · have h0 := (tdLab_zero h e).1
    rw [if_neg e, if_neg (by rw [tdNum_of h0]; omega)]; rfl
theorem tdTg_num {s : List Bool} {n : Nat} {t : Trm} (h : tdOkT n t) : tdTg (tdNam (tdNum s) t) = (tdTg t).map (tdNum s) := by
  unfold tdTg
  rw [tdNam_kind]
  unfold tdNam
  rcases h with ⟨hk, h1⟩ | ⟨hk, h1, h2⟩ | hk
  · rw [if_pos hk, if_pos hk, if_pos hk]; exact tdOne_num h1
  · have hk1 : ¬ t.kind = 1 := by omega
    rw [if_neg hk1, if_neg hk1, if_neg hk1, if_pos hk, if_pos hk, if_pos hk, List.map_append]
    exact congr (congrArg _ (tdOne_num h1)) (tdOne_num h2)
  · rw [if_neg (by omega), if_neg (by omega), if_neg (by omega), if_neg (by omega)]; rfl
/-- A label that leads to none, or to a block that is there. -/
def tdHere (s : List Bool) (x : Int) : Prop := x = -1 ∨ (0 ≤ x ∧ s.getD x.toNat false = true)
theorem tdHere_num {s : List Bool} {x : Int} (h : tdHere s x) : tdLab (tdTrues s) (tdNum s x) := by
  rcases h with rfl | ⟨h0, h1⟩
  · exact ⟨Int.le_refl _, by show (-1 : Int) < _; omega⟩
  · rw [tdNum_of h0]
    have := tdRank_all h1
    unfold tdLab; omega
/-- Blocks that are all tidied. -/
structure TdEnd (cnt : Int → Nat) (l : List Blk) (s : List Bool) : Prop where
  inv : TdInv cnt l s
  good : TdGood l s
  reach : ∀ i, s.getD i false = true → TdReach l i
  none_ : ∀ i, s.getD i false = true → tdCan cnt l i = false
section
variable {cnt : Int → Nat} {l : List Blk} {s : List Bool}
theorem TdInv.here {k : Nat} (h : TdInv cnt l s) (hk : s.getD k false = true) {x : Int} (hx : x ∈ tdTg (l.getD k blkNone).term) : 0 ≤ x ∧ x < l.length ∧ s.getD x.toNat false = true := by
  have hkl : k < l.length := by have := flag_lt hk; rw [h.len] at this; exact this
  have := tdTg_lab (h.ok.at_ k hkl) hx
  exact ⟨this.1, this.2, h.closed k hk x hx⟩
theorem TdInv.lt {k : Nat} (h : TdInv cnt l s) (hk : s.getD k false = true) : k < l.length := by have := flag_lt hk; rw [h.len] at this; exact this
theorem TdInv.okNum {k : Nat} (h : TdInv cnt l s) (hk : s.getD k false = true) : tdOkT (tdTrues s) (tdNam (tdNum s) (l.getD k blkNone).term) := by
  have hok := h.ok.at_ k (h.lt hk)
  have hx := fun x => @TdInv.here cnt l s k h hk x
  generalize (l.getD k blkNone).term = t at *
  have h1 : ∀ y, tdLab l.length y → (y = -1 ∨ y ∈ tdTg t) → tdLab (tdTrues s) (tdNum s y) := fun y hy hm => by
    refine tdHere_num ?_
    rcases hm with hm | hm
    · exact Or.inl hm
    · exact Or.inr ⟨(hx y hm).1, (hx y hm).2.2⟩
  unfold tdTg tdOne at h1
  unfold tdNam
  rcases hok with ⟨hk1, a⟩ | ⟨hk1, a, b⟩ | hk1
  · rw [if_pos hk1] at h1 ⊢
    refine Or.inl ⟨rfl, h1 _ a ?_⟩
    by_cases e : t.yes = -1
    · exact Or.inl e
    · right; rw [if_neg e]; simp
  · have hn : ¬ t.kind = 1 := by omega
    rw [if_neg hn, if_pos hk1] at h1 ⊢
    refine Or.inr (Or.inl ⟨rfl, h1 _ a ?_, h1 _ b ?_⟩)
    · by_cases e : t.yes = -1
      · exact Or.inl e
      · right; rw [if_neg e]; simp
    · by_cases e : t.no = -1
      · exact Or.inl e
      · right; rw [if_neg e]; simp
  · rw [if_neg (by omega), if_neg (by omega)]
    exact Or.inr (Or.inr hk1)
/-- The blocks, numbered anew. -/
def tdQ (l : List Blk) (s : List Bool) : List Blk := tdOut l s l.length
theorem TdInv.qlen (h : TdInv cnt l s) : (tdQ l s).length = tdTrues s := by
  unfold tdQ
  rw [tdOut_len l s _ (by rw [h.len]; exact Nat.le_refl _), ← h.len, tdRank_len]
theorem TdInv.qat {k : Nat} (h : TdInv cnt l s) (hk : s.getD k false = true) : (tdQ l s).getD (tdRank s k) blkNone = ⟨(l.getD k blkNone).ops, tdNam (tdNum s) (l.getD k blkNone).term⟩ :=
  tdOut_at l s l.length (by rw [h.len]; exact Nat.le_refl _) k (h.lt hk) hk
theorem TdInv.onto (h : TdInv cnt l s) {i : Nat} (hi : i < tdTrues s) : ∃ k, s.getD k false = true ∧ tdRank s k = i := by
  obtain ⟨k, _, a, b⟩ := tdRank_onto s s.length (Nat.le_refl _) i (by rw [tdRank_len]; exact hi)
  exact ⟨k, a, b⟩
theorem TdInv.qok (h : TdInv cnt l s) : TdOk (tdQ l s) := by
  intro b hb
  obtain ⟨i, hi, rfl⟩ := List.getElem_of_mem hb
  rw [h.qlen] at hi ⊢
  obtain ⟨k, hk, e⟩ := h.onto hi
  have e2 : (tdQ l s)[i]'(by rw [h.qlen]; exact hi) = (tdQ l s).getD i blkNone := by rw [List.getD_eq_getElem?_getD, List.getElem?_eq_getElem (by rw [h.qlen]; exact hi)]; rfl
  rw [e2, ← e, h.qat hk]
  exact h.okNum hk
theorem TdInv.atNum (h : TdInv cnt l s) {y : Int} (h0 : 0 ≤ y) (hs : s.getD y.toNat false = true) : tdAt (tdQ l s) (tdNum s y) = ⟨(tdAt l y).ops, tdNam (tdNum s) (tdAt l y).term⟩ := by
  rw [tdNum_of h0]
  exact h.qat hs
theorem TdInv.stopNum (h : TdInv cnt l s) {y : Int} (hy : tdHere s y) : tdStop (tdQ l s) (tdNum s y) = tdStop l y := by
  rcases hy with rfl | ⟨h0, hs⟩
  · rfl
  · unfold tdStop
    rw [decide_eq_false (show ¬ tdNum s y = -1 by rw [tdNum_of h0]; omega), decide_eq_false (show ¬ y = -1 by omega), h.atNum h0 hs]
    unfold tdDet
    rw [tdNam_kind]
theorem TdInv.nextHere (h : TdInv cnt l s) {y : Int} (hy : tdHere s y) (hs : tdStop l y = false) : tdHere s (tdNext l y) ∧ tdNext (tdQ l s) (tdNum s y) = tdNum s (tdNext l y) := by
  obtain ⟨h1, h2⟩ := tdStop_false hs
  obtain ⟨_, hk⟩ := tdDet_true h2
  rcases hy with hy | ⟨h0, hys⟩
  · exact absurd hy h1
  · have hk2 : (l.getD y.toNat blkNone).term.kind = 1 := hk
    refine ⟨?_, ?_⟩
    · by_cases e : tdNext l y = -1
      · exact Or.inl e
      · have hm : tdNext l y ∈ tdTg (l.getD y.toNat blkNone).term := by
          unfold tdTg tdOne
          rw [if_pos hk2, if_neg (show ¬ (l.getD y.toNat blkNone).term.yes = -1 from e)]
          exact List.mem_singleton.2 rfl
        have := h.here hys hm
        exact Or.inr ⟨this.1, this.2.2⟩
    · unfold tdNext
      rw [h.atNum h0 hys]
      exact tdNam_yes hk
theorem TdInv.pathNum (h : TdInv cnt l s) {y : Int} (hy : tdHere s y) : ∀ m, tdHere s (tdPath l m y) ∧ tdPath (tdQ l s) m (tdNum s y) = tdNum s (tdPath l m y)
  | 0 => ⟨hy, rfl⟩
  | m + 1 => by
    obtain ⟨h1, h2⟩ := h.pathNum hy m
    rw [tdPath_succ, tdPath_succ, h2]
    cases hs : tdStop l (tdPath l m y) with
    | true => rw [tdStep_stop hs, tdStep_stop ((h.stopNum h1).trans hs)]; exact ⟨h1, rfl⟩
    | false =>
      rw [tdStep_go hs, tdStep_go ((h.stopNum h1).trans hs)]
      exact h.nextHere h1 hs
theorem TdInv.fixNum (h : TdInv cnt l s) {y : Int} (hy : tdHere s y) (hf : tdFix l y) : tdFix (tdQ l s) (tdNum s y) := by
  rcases hf with hf | hf
  · exact Or.inl ((h.stopNum hy).trans hf)
  · right
    intro m
    obtain ⟨h1, h2⟩ := h.pathNum hy m
    rw [h2, h.stopNum h1]
    exact hf m
/-- What a tidied block names is no detour, but of a ring. -/
theorem TdEnd.qfix (h : TdEnd cnt l s) {i : Nat} (hi : i < tdTrues s) {x : Int} (hx : x ∈ tdTg ((tdQ l s).getD i blkNone).term) : tdFix (tdQ l s) x := by
  obtain ⟨k, hk, rfl⟩ := h.inv.onto hi
  rw [h.inv.qat hk] at hx
  have hx : x ∈ tdTg (tdNam (tdNum s) (l.getD k blkNone).term) := hx
  rw [tdTg_num (h.inv.ok.at_ k (h.inv.lt hk))] at hx
  obtain ⟨y, hy, rfl⟩ := List.mem_map.1 hx
  have h2 := h.inv.here hk hy
  exact h.inv.fixNum (Or.inr ⟨h2.1, h2.2.2⟩) (h.good k hk y hy)
theorem tdNam_id {n : Nat} {g : Int → Int} {t : Trm} (h : tdOkT n t) (hg : ∀ x ∈ tdTg t, g x = x) (hn : g (-1) = -1) : tdNam g t = t := by
  have h1 : ∀ y, (y = -1 ∨ y ∈ tdTg t) → g y = y := fun y hy => by
    rcases hy with rfl | hy
    · exact hn
    · exact hg y hy
  obtain ⟨tk, ta, ty, tn⟩ := t
  unfold tdTg tdOne at h1
  unfold tdNam
  rcases h with ⟨hk1, a⟩ | ⟨hk1, a, b⟩ | hk1
  · simp only at hk1
    subst hk1
    simp only [if_true] at h1 ⊢
    rw [h1 ty (by by_cases e : ty = -1
                  · exact Or.inl e
                  · right; rw [if_neg e]; simp)]
  · simp only at hk1
    subst hk1
    rw [if_neg (by simp), if_pos rfl] at h1 ⊢
    simp only at h1 ⊢
    rw [h1 ty (by by_cases e : ty = -1
                  · exact Or.inl e
                  · right; rw [if_neg e]; simp), h1 tn (by by_cases e : tn = -1
                                                           · exact Or.inl e
                                                           · right; rw [if_neg e]; simp)]
  · simp only at hk1
    subst hk1
    rfl
theorem TdEnd.qstr (h : TdEnd cnt l s) : tdStr (tdQ l s) = tdQ l s := by
  refine List.ext_getElem (tdStr_len _) fun i h1 h2 => ?_
  have hi : i < tdTrues s := by rw [h.inv.qlen] at h2; exact h2
  have e1 : (tdStr (tdQ l s))[i] = (tdStr (tdQ l s)).getD i blkNone := by rw [List.getD_eq_getElem?_getD, List.getElem?_eq_getElem h1]; rfl
  have e2 : (tdQ l s)[i] = (tdQ l s).getD i blkNone := by rw [List.getD_eq_getElem?_getD, List.getElem?_eq_getElem h2]; rfl
  rw [e1, e2, tdStr_at _ i h2, tdNam_id (h.inv.qok.at_ i h2) (fun x hx => tdLeads_fix (h.qfix hi hx)) (tdLeads_none _)]
theorem TdEnd.qreach (h : TdEnd cnt l s) {i : Nat} (hi : i < tdTrues s) : TdReach (tdQ l s) i := by
  obtain ⟨k, hk, rfl⟩ := h.inv.onto hi
  refine (h.reach k hk (fun j => s.getD j false = true ∧ TdReach (tdQ l s) (tdRank s j)) ⟨h.inv.zero, ?_⟩ (fun j x hj hx => ?_)).2
  · have e : tdRank s 0 = 0 := rfl
    rw [e]; exact TdReach.zero
  · obtain ⟨hjs, hjr⟩ : s.getD j false = true ∧ TdReach (tdQ l s) (tdRank s j) := hj
    have h2 := h.inv.here hjs hx
    refine ⟨h2.2.2, ?_⟩
    have hm : tdNum s x ∈ tdTg ((tdQ l s).getD (tdRank s j) blkNone).term := by
      rw [h.inv.qat hjs]
      show tdNum s x ∈ tdTg (tdNam (tdNum s) (l.getD j blkNone).term)
      rw [tdTg_num (h.inv.ok.at_ j (h.inv.lt hjs))]
      exact List.mem_map.2 ⟨x, hx, rfl⟩
    have h3 := TdReach.step (tdRank s j) (tdNum s x) hjr hm
    rw [tdNum_of h2.1] at h3
    exact h3
theorem allT_getD {n k : Nat} (hk : k < n) : (List.replicate n true).getD k false = true := by rw [List.getD_eq_getElem?_getD, List.getElem?_replicate, if_pos hk]; rfl
theorem allT_lt {n k : Nat} (h : (List.replicate n true).getD k false = true) : k < n := by have := flag_lt h; rw [List.length_replicate] at this; exact this
theorem TdEnd.qin (h : TdEnd cnt l s) : TdIn (tdQ l s) (List.replicate (tdTrues s) true) := by
  refine ⟨by rw [List.length_replicate, h.inv.qlen], fun k hk => ?_⟩
  rw [h.inv.qlen] at hk
  exact ⟨fun _ => h.qreach hk, fun _ => allT_getD hk⟩
theorem TdInv.pos (h : TdInv cnt l s) : 0 < tdTrues s := by have := tdRank_all h.zero; omega
theorem TdEnd.qinv (h : TdEnd cnt l s) : TdInv (tdCnt (tdQ l s) (List.replicate (tdTrues s) true)) (tdQ l s) (List.replicate (tdTrues s) true) :=
  ⟨by rw [List.length_replicate, h.inv.qlen], allT_getD h.inv.pos, h.inv.qok, fun i hi x hx => by
    have := tdTg_lab (h.inv.qok.at_ i (by rw [h.inv.qlen]; exact allT_lt hi)) hx
    rw [h.inv.qlen] at this
    exact allT_getD (by omega), fun x _ => rfl⟩
theorem tdSum_zero (f : Nat → Nat) : ∀ n, (∀ i, i < n → f i = 0) → tdSum f n = 0
  | 0, _ => rfl
  | n + 1, h => by
    show tdSum f n + f n = 0
    rw [tdSum_zero f n (fun i hi => h i (by omega)), h n (by omega)]
theorem tdSum_single {f : Nat → Nat} {k n : Nat} (hk : k < n) (h : ∀ i, i < n → i ≠ k → f i = 0) : tdSum f n = f k := by
  rw [tdSum_pull f k n hk, tdSum_zero (fun i => if i = k then 0 else f i) n (fun i hi => by
    by_cases e : i = k
    · simp only [if_pos e]
    · simp only [if_neg e]; exact h i hi e), Nat.zero_add]
theorem TdEnd.qnone (h : TdEnd cnt l s) (i : Nat) (hi : (List.replicate (tdTrues s) true).getD i false = true) : tdCan (tdCnt (tdQ l s) (List.replicate (tdTrues s) true)) (tdQ l s) i = false := by
  obtain ⟨k, hk, rfl⟩ := h.inv.onto (allT_lt hi)
  cases hc : tdCan (tdCnt (tdQ l s) (List.replicate (tdTrues s) true)) (tdQ l s) (tdRank s k) with
  | false => rfl
  | true =>
    exfalso
    obtain ⟨c', e, hck, hc0, hcl, _, hcs, htg, hno⟩ := h.qinv.only hi hc
    have hkind := (tdCan_of hc).1
    rw [h.inv.qat hk] at hkind htg
    have hkind : (tdNam (tdNum s) (l.getD k blkNone).term).kind = 1 := hkind
    rw [tdNam_kind] at hkind
    have htg : tdTg (tdNam (tdNum s) (l.getD k blkNone).term) = [(c' : Int)] := htg
    rw [tdTg_num (h.inv.ok.at_ k (h.inv.lt hk))] at htg
    obtain ⟨c, hcm, rfl⟩ := h.inv.onto (allT_lt hcs)
    -- what k names in the old numbers
    have hy : tdTg (l.getD k blkNone).term = [tdTo l k] := by
      refine tdTg_jump hkind fun e1 => ?_
      unfold tdTg tdOne at htg
      rw [if_pos hkind, if_pos (show (l.getD k blkNone).term.yes = -1 from e1)] at htg
      cases htg
    have hym : tdTo l k ∈ tdTg (l.getD k blkNone).term := by rw [hy]; simp
    have h2 := h.inv.here hk hym
    rw [hy] at htg
    have h3 : tdNum s (tdTo l k) = (tdRank s c : Int) := by injection htg
    rw [tdNum_of h2.1] at h3
    have h4 : (tdTo l k).toNat = c := tdRank_inj h2.2.2 hcm (by omega)
    have h5 : tdTo l k = (c : Int) := by omega
    have hck2 : c ≠ k := fun e1 => hck (by rw [e1])
    have hc02 : c ≠ 0 := fun e1 => hc0 (by rw [e1]; rfl)
    have hcnt : tdCnt l s (c : Int) = 1 := by
      unfold tdCnt
      rw [tdSum_single (h.inv.lt hk) (fun j hj hjk => ?_)]
      · unfold tdNm; rw [if_pos hk, hy, h5]; simp
      · unfold tdNm
        split
        · rename_i hjs
          rw [List.count_eq_zero]
          intro hm
          refine hno (tdRank s j) (allT_getD (tdRank_all hjs)) (fun e1 => hjk (tdRank_inj hjs hk e1)) ?_
          rw [h.inv.qat hjs]
          show ((tdRank s c : Nat) : Int) ∈ tdTg (tdNam (tdNum s) (l.getD j blkNone).term)
          rw [tdTg_num (h.inv.ok.at_ j (h.inv.lt hjs))]
          exact List.mem_map.2 ⟨(c : Int), hm, by rw [tdNum_of (by omega)]; rfl⟩
        · rfl
    have hcan : tdCan cnt l k = true := by
      unfold tdCan
      rw [h5, ← h.inv.cnt c hcm, hcnt, decide_eq_true hkind, decide_eq_false (show ¬ (c : Int) = (k : Int) by omega), decide_eq_false (show ¬ (c : Int) = 0 by omega), decide_eq_false (show ¬ (c : Int) = -1 by omega)]
      rfl
    rw [h.none_ k hk] at hcan
    cases hcan
theorem tdJoin_none {cnt : Int → Nat} {l : List Blk} {s : List Bool} (h : ∀ i, s.getD i false = true → tdCan cnt l i = false) : ∀ m, tdJoinTo cnt (l, s) m = (l, s)
  | 0 => rfl
  | m + 1 => by
    show (if (tdJoinTo cnt (l, s) m).2.getD m false = true then tdGo cnt (tdTrues (tdJoinTo cnt (l, s) m).2) (tdJoinTo cnt (l, s) m) m else tdJoinTo cnt (l, s) m) = (l, s)
    rw [tdJoin_none h m]
    by_cases hm : s.getD m false = true
    · simp only [if_pos hm]
      exact tdGo_end (z := (l, s)) (h m hm) _
    · simp only [if_neg hm]
theorem tdRank_rep (n : Nat) : ∀ k, k ≤ n → tdRank (List.replicate n true) k = k
  | 0, _ => rfl
  | k + 1, h => by
    rw [tdRank_succ _ k (by rw [List.length_replicate]; omega), tdRank_rep n k (by omega), if_pos (allT_getD (by omega))]
theorem tdOut_rep {q : List Blk} (hq : TdOk q) : ∀ m, m ≤ q.length → tdOut q (List.replicate q.length true) m = q.take m
  | 0, _ => by simp [tdOut]
  | m + 1, h => by
    show tdOut q (List.replicate q.length true) m ++ _ = _
    rw [tdOut_rep hq m (by omega), if_pos (allT_getD (by omega)), take_succ_getD q m blkNone (by omega)]
    congr 1
    have e := tdNam_id (g := tdNum (List.replicate q.length true)) (hq.at_ m (by omega)) (fun x hx => by
      have := tdTg_lab (hq.at_ m (by omega)) hx
      rw [tdNum_of this.1, tdRank_rep _ _ (by omega)]; omega) rfl
    rw [e]
end
end Go.Proofs.Ythkobddggoojlaa
