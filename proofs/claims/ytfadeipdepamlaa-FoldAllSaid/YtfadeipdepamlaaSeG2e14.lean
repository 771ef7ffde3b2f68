/- Parts of a proof, joined. No condition but those that each theorem names. -/
import Derived.WalkKit
import Derived.OpenShut
import Derived.Below
import Derived.Lib.Hide
import Derived.Laws.OwnMore
import Derived.Deep.QuietTactic
import Derived.Deep.AppendLies
import Derived.ProofKit
import Derived.SizedLaws
import Derived.Test.YtfadeipdepamlaaProg
import Derived.Handy
import Derived.Deep.RegionHeld3
import Derived.BigQuiet
import Derived.Maps.AppendAt
import Derived.Maps.RangeWalk
import Derived.Maps.OwnSet
import Derived.StillTailTactics
import Derived.Laws.CopyOwn
import Derived.Lib.BufferWrite
import Derived.OrdersHeld
import Derived.RegionTactic
import Derived.Test.YtfadeipdepamlaaSeG0e0
import Derived.Test.YtfadeipdepamlaaSeG0e1
import Derived.Test.YtfadeipdepamlaaSeG0e2
import Derived.Test.YtfadeipdepamlaaSeG0e4
import Derived.Test.YtfadeipdepamlaaSeIrC
import Derived.Test.YtfadeipdepamlaaSeG1e5
import Derived.Test.YtfadeipdepamlaaSeG1e6
import Derived.Test.YtfadeipdepamlaaSeG0e8
import Derived.Test.YtfadeipdepamlaaSeG1e10
import Derived.Test.YtfadeipdepamlaaSeG0e5
import Derived.Test.YtfadeipdepamlaaSeG1e13
import Derived.Test.YtfadeipdepamlaaSeG1e14
import Derived.Test.YtfadeipdepamlaaSeFoldM
import Derived.Test.YtfadeipdepamlaaSeG0e11
namespace Go.Proofs.Ytfadeipdepamlaa
open Go.RowKit
set_option linter.unusedVariables false
theorem step_app {P : Program} {w : World} {ops : Array Oper} {o : Oper} {a : Act} {K : Act → World → Prop} {Q : Exit → Act → World → Prop} {E : Prop} (hgd : o.guard = none) (s x : Operand) (t : TypeId)
    (ho : o.op = .call { callee := .builtin .append, args := #[s, x], argTypes := #[t, t] }) {v xv v' : Value} {w' : World} (hrun : (Builtin.append_ #[t, t] o.type #[v, xv]).run P w = .ok v' w') (hs : a.eval s = v) (hx : a.eval x = xv)
    (h : K (a.put o.dst v') w') : if Region.wanted o (yielded ops a.tmps) = true then Oper.wp P o a w K Q else E := by
  rw [if_pos (by simp [Region.wanted, hgd])]
  unfold Oper.wp execOp
  simp only [ho, resolve, invoke, builtin, Sem.run_bind, Sem.run_pure, Result.andThen_ok, List.map_toArray, List.map_cons, List.map_nil, hs, hx, hrun]
  exact h
/-- The four constants. -/
def faConst (x : Nat → Int) (t : Nat) : Opn := ⟨1, (t : Int), 0, 0, 0, x t⟩
def faPre (x : Nat → Int) (t : Nat) : List Opn := (List.range t).map (faConst x)
def faIr (x : Nat → Int) (ops : List Opn) (at_ : Int) : Ir := ⟨4, [], [⟨faPre x 4 ++ ops, ⟨2, at_, -1, 0⟩⟩], 0, 0⟩
theorem faPre_succ (x : Nat → Int) (t : Nat) : faPre x (t + 1) = faPre x t ++ [faConst x t] := by unfold faPre; rw [List.range_succ, List.map_append]; rfl
theorem faPre_len (x : Nat → Int) (t : Nat) : (faPre x t).length = t := by unfold faPre; simp
theorem fa_fine {x : Nat → Int} {ops : List Opn} {at_ : Int} (hx : ∀ t, t < 4 → IntR (x t)) (hl : ops.length ≤ 200) (ho : ∀ o ∈ ops, o.fine) (ha : IntR at_) : (faIr x ops at_).fine := by
  have hz : IntR 0 := by unfold IntR; omega
  refine ⟨by show IntR 4; unfold IntR; omega, hz, hz, by show ([] : List Arr).length ≤ _; simp, by show [_].length ≤ _; simp, fun a ha => by (cases ha), fun b hb => ?_⟩
  obtain rfl := List.mem_singleton.1 hb
  refine ⟨by show (faPre x 4 ++ ops).length ≤ _; rw [List.length_append, faPre_len]; omega, fun o h => ?_, by show IntR 2; unfold IntR; omega, ha, by show IntR (-1); unfold IntR; omega, hz⟩
  rcases List.mem_append.1 h with h | h
  · unfold faPre at h
    obtain ⟨t, ht, rfl⟩ := List.mem_map.1 h
    have ht := List.mem_range.1 ht
    exact ⟨by show IntR 1; unfold IntR; omega, by show IntR (t : Int); unfold IntR; omega, hz, hz, hz, hx t ht⟩
  · exact ho o h
/-- All temps are known, and all that is folded is a number. -/
structure FaOk (p : Ir) (s : (Int → Option Int) × List Opn) (n : Nat) : Prop where
  known : ∀ t : Int, 0 ≤ t → t < n → (s.1 t).isSome = true
  num : ∀ o ∈ s.2, o.kind = 1
theorem FaOk.step {p : Ir} {s : (Int → Option Int) × List Opn} {n m : Nat} (h : FaOk p s n) {o : Opn} (hn : ∃ v, fdOp s.1 o = fdNum o v) (hm : ∀ t : Int, 0 ≤ t → t < m → t < n ∨ t = o.dst) : FaOk p (fdStep s o) m := by
  obtain ⟨v, hv⟩ := hn
  unfold fdStep
  rw [hv]
  refine ⟨fun t h0 h1 => ?_, fun q hq => ?_⟩
  · show ((fdMap s.1 (fdNum o v)) t).isSome = true
    unfold fdMap
    rw [if_pos (show (fdNum o v).kind = 1 from rfl)]
    show (upd s.1 o.dst v t).isSome = true
    unfold upd
    by_cases e : t = o.dst
    · rw [if_pos e]; rfl
    · rw [if_neg e]
      rcases hm t h0 h1 with h2 | h2
      · exact h.known t h0 h2
      · exact absurd h2 e
  · rcases List.mem_append.1 (show q ∈ s.2 ++ [fdNum o v] from hq) with hq | hq
    · exact h.num q hq
    · rw [List.mem_singleton.1 hq]; rfl
theorem fdConst (f : Int → Option Int) (o : Opn) (h : o.kind = 1) : ∃ v, fdOp f o = fdNum o v := by
  have hs : fSrc o.kind = 0 := by rw [h]; rfl
  have e : ∃ v, fdReck f o = some v := by
    unfold fdReck
    rw [if_pos (by unfold fdHas; rw [hs]; exact ⟨rfl, rfl, rfl⟩)]
    unfold valP
    rw [if_pos h]
    exact ⟨_, rfl⟩
  obtain ⟨v, e⟩ := e
  exact ⟨v, by unfold fdOp; rw [e]⟩
theorem fa_pre {p : Ir} (x : Nat → Int) : ∀ t, FaOk p (fdList (faPre x t)) t
  | 0 => ⟨fun t h0 h1 => by omega, fun o h => by cases h⟩
  | t + 1 => by
    rw [faPre_succ, fdList_snoc]
    exact (fa_pre x t).step (fdConst _ _ rfl) (fun u h0 h1 => by show u < (t : Int) ∨ u = (t : Int); omega)
theorem fa_fold {p : Ir} (ha : p.arrays = []) (hT : p.temps = 4) : ∀ (l : List Opn) (s : (Int → Option Int) × List Opn), FaOk p s 4 → (∀ o ∈ l, opP p o) → FaOk p (l.foldl fdStep s) 4
  | [], s, h, _ => h
  | o :: l, s, h, ho => by
    rw [List.foldl_cons]
    refine fa_fold ha hT l _ (h.step (fd_all ha (fun t ht => ?_) (ho o (by simp))) (fun t h0 h1 => Or.inl h1)) (fun q hq => ho q (by simp [hq]))
    obtain ⟨h0, h1⟩ := ht
    exact h.known t h0 (by omega)
theorem fa_all {x : Nat → Int} {ops : List Opn} {at_ : Int} (he : irErr (faIr x ops at_) = 0) : (∀ o ∈ (fdList (faPre x 4 ++ ops)).2, o.kind = 1) ∧ (fdTrm (fdList (faPre x 4 ++ ops)).1 ⟨2, at_, -1, 0⟩).kind = 1 := by
  obtain ⟨_, hm⟩ := irErr_ok he
  obtain ⟨hop, htr⟩ := hm.2.2 _ (List.mem_singleton.2 rfl)
  have h := fa_fold (p := faIr x ops at_) rfl rfl ops _ (fa_pre x 4) (fun o ho => hop o (List.mem_append_right _ ho))
  have e : fdList (faPre x 4 ++ ops) = ops.foldl fdStep (fdList (faPre x 4)) := by unfold fdList; rw [List.foldl_append]
  rw [← e] at h
  refine ⟨h.num, ?_⟩
  have hat : isTemp (faIr x ops at_) at_ := by
    rcases htr with ⟨h1, _⟩ | ⟨_, h2, _⟩ | ⟨h1, _⟩
    · exact absurd (show (2 : Int) = 1 from h1) (by decide)
    · exact h2
    · exact absurd (show (2 : Int) = 3 from h1) (by decide)
  have hk := h.known at_ hat.1 hat.2
  unfold fdTrm
  rw [if_pos rfl]
  cases e2 : (fdList (faPre x 4 ++ ops)).1 at_ with
  | none => rw [e2] at hk; cases hk
  | some n => rfl
/-- The law's memory while it lays its program. -/
structure FaAt (w0 : World) (H : Nat) (w : World) (wc : Array Value) (ov : Value) (l : List Opn) : Prop where
  bW : w.heap[H]? = some (.cells wc 35 (0, 0))
  bO : w.heap[H + 1]? = some (.cells #[ov, .int .i64 0, .int .i64 0, .int .i64 0, .int .i64 0] 39 (0, 0))
  bI : w.heap[H + 1 + 1]? = some (.cells #[.int .i64 4, .slice none 0 0, .slice (some ⟨H + 1, 0, none⟩) 1 1, .int .i64 0, .int .i64 0] 25 (0, 0))
  row : w.ownsRow (H + 3) 41 6 ov l.length (opsCells l)
  bel : Below H w0 w
  siz : H + 3 ≤ w.heap.size
section
variable {w0 w w' : World} {H rc : Nat} {wc : Array Value} {ov : Value} {l : List Opn} {RA : Option Addr}
theorem FaAt.below (h : FaAt w0 H w wc ov l) (hb : Below w.heap.size w w') : FaAt w0 H w' wc ov l :=
  ⟨(hb.block _ (lt_of_blk h.bW)).trans h.bW, (hb.block _ (lt_of_blk h.bO)).trans h.bO, (hb.block _ (lt_of_blk h.bI)).trans h.bI, own_below h.row hb, h.bel.trans (hb.mono (by have := h.siz; omega)), by have := h.siz; have := hb.size; omega⟩
theorem FaAt.grown (h : FaAt w0 H w wc ov l) (hg : w.grownBy w' ov.ownBlock) {v' : Value} {l' : List Opn} (hr : w'.ownsRow (H + 3) 41 6 v' l'.length (opsCells l')) :
    w'.heap[H]? = some (.cells wc 35 (0, 0)) ∧ w'.cell? ⟨H + 1, 0, none⟩ = some ov ∧ w'.frozen? ⟨H + 1, 0, none⟩ = false ∧ w'.cell? ⟨H + 1 + 1, 2, none⟩ = some (.slice (some ⟨H + 1, 0, none⟩) 1 1) ∧ FaAt w0 H (w'.setCell ⟨H + 1, 0, none⟩ v') wc v' l' := by
  have hs := h.siz
  have hlow : ∀ g, g < H + 3 → ov.ownBlock ≠ some g := fun g hg e => by have := (h.row.lt g e).1; omega
  have hold : ∀ {g x}, w.heap[g]? = some x → g < H + 3 → w'.heap[g]? = some x := fun {g x} hx hg3 => (hg.block g (lt_of_blk hx) (fun e => hlow g hg3 e.symm)).trans hx
  have k0 := hold h.bO (by omega)
  have kW := hold h.bW (by omega)
  have kI := hold h.bI (by omega)
  have hB3 : Below H w0 w' := h.bel.grown hg (by omega) (fun r hr => by have := (h.row.lt r hr).1; omega)
  have hs3 : H + 3 ≤ w'.heap.size := by have := hg.size; omega
  refine ⟨kW, (cell_of_blk k0 0).1, (cell_of_blk k0 0).2, (cell_of_blk kI 2).1, ⟨blk_far kW _ _ (by show H + 1 ≠ H; omega), blk_set k0 0 _, blk_far kI _ _ (by show H + 1 ≠ H + 1 + 1; omega), ?_, hB3.setCell (by show H ≤ H + 1; omega) _, by simp [World.setCell]; exact hs3⟩⟩
  exact own_setCell hr _ _ (by show H + 1 < H + 3; omega)
/-- One operation more: the append, and the store of the longer row. -/
theorem FaAt.push (h : FaAt w0 H w wc ov l) (o : Opn) (hn : l.length ≤ 2000000) :
    ∃ A c w3, (Builtin.append_ #[34, 34] 34 #[ov, .slice (some ⟨w.heap.size, 0, none⟩) 1 1]).run Try.prog (w.alloc (.cells #[.int .i64 o.kind, .int .i64 o.dst, .int .i64 o.a, .int .i64 o.b, .int .i64 o.c, .int .i64 o.imm] 41)) = .ok (.slice A (l.length + 1) c) w3 ∧
      w3.heap[H]? = some (.cells wc 35 (0, 0)) ∧ w3.cell? ⟨H + 1, 0, none⟩ = some ov ∧ w3.frozen? ⟨H + 1, 0, none⟩ = false ∧ w3.cell? ⟨H + 1 + 1, 2, none⟩ = some (.slice (some ⟨H + 1, 0, none⟩) 1 1) ∧ FaAt w0 H (w3.setCell ⟨H + 1, 0, none⟩ (.slice A (l.length + 1) c)) wc (.slice A (l.length + 1) c) (l ++ [o]) := by
  obtain ⟨v', w3, a1, a2, a3, _⟩ := run_append_op w (H + 3) ov l h.row o hn h.siz
  obtain ⟨A, c, e⟩ := ownN_len a2
  have hl : (l ++ [o]).length = l.length + 1 := by simp
  rw [hl] at e
  subst e
  obtain ⟨b0, b1, b2, b3, b4⟩ := (h.below (bnew w (.cells #[.int .i64 o.kind, .int .i64 o.dst, .int .i64 o.a, .int .i64 o.b, .int .i64 o.c, .int .i64 o.imm] 41))).grown a3 a2
  exact ⟨A, c, w3, a1, b0, b1, b2, b3, b4⟩
/-- A list of operations more. -/
theorem FaAt.pushAll (h : FaAt w0 H w wc ov l) (A : Option Addr) (c B : Nat) (ops : List Opn) (ho : SlRep opEnc w B (.slice A ops.length c) ops) (hn : l.length + ops.length ≤ 2000000) :
    ∃ AA cc w3, (Builtin.append_ #[34, 34] 34 #[ov, .slice A ops.length c]).run Try.prog w = .ok (.slice AA (l ++ ops).length cc) w3 ∧
      w3.cell? ⟨H + 1, 0, none⟩ = some ov ∧ w3.frozen? ⟨H + 1, 0, none⟩ = false ∧ w3.cell? ⟨H + 1 + 1, 2, none⟩ = some (.slice (some ⟨H + 1, 0, none⟩) 1 1) ∧ FaAt w0 H (w3.setCell ⟨H + 1, 0, none⟩ (.slice AA (l ++ ops).length cc)) wc (.slice AA (l ++ ops).length cc) (l ++ ops) := by
  obtain ⟨AA, cc, w3, a1, a2, a3, _⟩ := run_append_ops w (H + 3) ov l h.row A c B ops ho hn h.siz
  obtain ⟨_, b1, b2, b3, b4⟩ := h.grown a3 a2
  exact ⟨AA, cc, w3, a1, b1, b2, b3, b4⟩
/-- The program is laid whole. -/
theorem FaAt.done (h : FaAt w0 H w wc (.slice RA l.length rc) l) (n : Int) : ∃ w5, ((((w.setCell ⟨H + 1, 1, none⟩ (.int .i64 2)).setCell ⟨H + 1, 2, none⟩ (.int .i64 n)).setCell ⟨H + 1, 3, none⟩ (.int .i64 (-1))).setCell ⟨H + 1, 4, none⟩ (.int .i64 0)) = w5 ∧
    w5.heap[H + 1 + 1]? = some (.cells #[.int .i64 4, .slice none 0 0, .slice (some ⟨H + 1, 0, none⟩) 1 1, .int .i64 0, .int .i64 0] 25 (0, 0)) ∧ Below H w0 w5 ∧ IrRep w5 w5.heap.size ⟨4, [], [⟨l, ⟨2, n, -1, 0⟩⟩], 0, 0⟩ (.slice none 0 0) (.slice (some ⟨H + 1, 0, none⟩) 1 1) := by
  refine ⟨_, rfl, ?_, ?_, SlRep.nil_ _ _, ?_⟩
  · exact blk_far (blk_far (blk_far (blk_far h.bI _ _ (by show H + 1 ≠ H + 1 + 1; omega)) _ _ (by show H + 1 ≠ H + 1 + 1; omega)) _ _ (by show H + 1 ≠ H + 1 + 1; omega)) _ _ (by show H + 1 ≠ H + 1 + 1; omega)
  · exact (((h.bel.setCell (by show H ≤ H + 1; omega) _).setCell (by show H ≤ H + 1; omega) _).setCell (by show H ≤ H + 1; omega) _).setCell (by show H ≤ H + 1; omega) _
  · have hb := blk_set (blk_set (blk_set (blk_set h.bO 1 (.int .i64 2)) 2 (.int .i64 n)) 3 (.int .i64 (-1))) 4 (.int .i64 0)
    have hr := own_setCell (own_setCell (own_setCell (own_setCell h.row ⟨H + 1, 1, none⟩ (.int .i64 2) (by show H + 1 < H + 3; omega)) ⟨H + 1, 2, none⟩ (.int .i64 n) (by show H + 1 < H + 3; omega)) ⟨H + 1, 3, none⟩ (.int .i64 (-1)) (by show H + 1 < H + 3; omega)) ⟨H + 1, 4, none⟩ (.int .i64 0) (by show H + 1 < H + 3; omega)
    exact slRep_one (E := blkEnc) (es := .slice RA l.length rc :: trmCells ⟨2, n, -1, 0⟩) hb (lt_of_blk hb) ⟨_, rfl, slRep_ops (Nat.le_refl _) hr⟩
end
end Go.Proofs.Ytfadeipdepamlaa
namespace Go.Proofs.Ytfadeipdepamlaa
open Go.RowKit
set_option linter.unusedVariables false
theorem slRep_rows {T : Type} {E : Enc T} {w : World} {B g : Nat} {t : TypeId} (l : List T) (f : T → List Value) (hlen : ∀ x, (f x).length = E.size) (hb : w.heap[g]? = some (.cells (l.flatMap f).toArray t (0, 0))) (hB : g < B) (hr : ∀ x ∈ l, E.rep w B (f x) x) : SlRep E w B (.slice (some ⟨g, 0, none⟩) l.length l.length) l := by
  refine ⟨some ⟨g, 0, none⟩, l.length, rfl, Nat.le_refl _, fun k x hk => ⟨g, 0, f x, rfl, hB, hr x (List.mem_of_getElem? hk), fun j u hu => ?_⟩⟩
  have := (cell_of_blk hb (k * E.size + j)).1
  rw [Nat.zero_add, this, List.getElem?_toArray, List.flatMap_def]
  exact flatten_at E.size (l.map f) (fun es he => by obtain ⟨y, _, rfl⟩ := List.mem_map.1 he; exact hlen y) k (f x) (by rw [List.getElem?_map, hk]; rfl) j u hu
/-- An operation, read off a list that has it. -/
theorem op_known {w : World} {B : Nat} {A : Option Addr} {c : Nat} {l : List Opn} (h : SlRep opEnc w B (.slice A l.length c) l) (k : Nat) (o : Opn) (ho : l[k]? = some o) :
    ∃ b off, A = some ⟨b, off, none⟩ ∧ b < B ∧ w.cell? ⟨b, off + k * 6, none⟩ = some (.int .i64 o.kind) ∧ w.cell? ⟨b, off + k * 6 + 1, none⟩ = some (.int .i64 o.dst) ∧ w.cell? ⟨b, off + k * 6 + 2, none⟩ = some (.int .i64 o.a) ∧ w.cell? ⟨b, off + k * 6 + 3, none⟩ = some (.int .i64 o.b) ∧ w.cell? ⟨b, off + k * 6 + 4, none⟩ = some (.int .i64 o.c) ∧ w.cell? ⟨b, off + k * 6 + 5, none⟩ = some (.int .i64 o.imm) := by
  have hk : k < l.length := (List.getElem?_eq_some_iff.1 ho).1
  obtain ⟨b, off, h1, h2, h3⟩ := op_at h k hk
  have e : l.getD k opNone = o := by rw [List.getD_eq_getElem?_getD, ho]; rfl
  rw [e] at h3
  exact ⟨b, off, h1, h2, h3⟩
theorem blk_known {w : World} {B : Nat} {A : Option Addr} {c : Nat} {l : List Blk} (h : SlRep blkEnc w B (.slice A l.length c) l) (k : Nat) (b' : Blk) (hb : l[k]? = some b') :
    ∃ b off, A = some ⟨b, off, none⟩ ∧ b < B ∧ ∃ OA oc, SlRep opEnc w B (.slice OA b'.ops.length oc) b'.ops ∧ b'.ops.length ≤ oc ∧ w.cell? ⟨b, off + k * 5, none⟩ = some (.slice OA b'.ops.length oc) ∧ w.cell? ⟨b, off + k * 5 + 1, none⟩ = some (.int .i64 b'.term.kind) ∧
      w.cell? ⟨b, off + k * 5 + 2, none⟩ = some (.int .i64 b'.term.a) ∧ w.cell? ⟨b, off + k * 5 + 3, none⟩ = some (.int .i64 b'.term.yes) ∧ w.cell? ⟨b, off + k * 5 + 4, none⟩ = some (.int .i64 b'.term.no) := by
  have hk : k < l.length := (List.getElem?_eq_some_iff.1 hb).1
  have h3 := blk_at h k hk
  have e : l.getD k blkNone = b' := by rw [List.getD_eq_getElem?_getD, hb]; rfl
  rw [e] at h3
  exact h3
/-- A program of one block, laid cell by cell. -/
theorem live_one (w : World) (L : List Opn) (t : Trm) (T : Int) :
    IrRep (((w.alloc (.cells (L.flatMap opCells).toArray 41)).alloc (.cells #[.slice (some ⟨w.heap.size, 0, none⟩) L.length L.length, .int .i64 t.kind, .int .i64 t.a, .int .i64 t.yes, .int .i64 t.no] 39)).alloc (.cells #[.int .i64 T, .slice none 0 0, .slice (some ⟨w.heap.size + 1, 0, none⟩) 1 1, .int .i64 0, .int .i64 0] 25))
      (((w.alloc (.cells (L.flatMap opCells).toArray 41)).alloc (.cells #[.slice (some ⟨w.heap.size, 0, none⟩) L.length L.length, .int .i64 t.kind, .int .i64 t.a, .int .i64 t.yes, .int .i64 t.no] 39)).alloc (.cells #[.int .i64 T, .slice none 0 0, .slice (some ⟨w.heap.size + 1, 0, none⟩) 1 1, .int .i64 0, .int .i64 0] 25)).heap.size
      ⟨T, [], [⟨L, t⟩], 0, 0⟩ (.slice none 0 0) (.slice (some ⟨w.heap.size + 1, 0, none⟩) 1 1) := by
  have h1 := alloc_size w (.cells (L.flatMap opCells).toArray 41) rfl
  refine ⟨SlRep.nil_ _ _, ?_⟩
  have hA := alloc_old (alloc_old (alloc_last w _ rfl (.cells (L.flatMap opCells).toArray 41)) (.cells #[.slice (some ⟨w.heap.size, 0, none⟩) L.length L.length, .int .i64 t.kind, .int .i64 t.a, .int .i64 t.yes, .int .i64 t.no] 39)) (.cells #[.int .i64 T, .slice none 0 0, .slice (some ⟨w.heap.size + 1, 0, none⟩) 1 1, .int .i64 0, .int .i64 0] 25)
  have hB := alloc_old (alloc_last _ _ h1 (.cells #[.slice (some ⟨w.heap.size, 0, none⟩) L.length L.length, .int .i64 t.kind, .int .i64 t.a, .int .i64 t.yes, .int .i64 t.no] 39)) (.cells #[.int .i64 T, .slice none 0 0, .slice (some ⟨w.heap.size + 1, 0, none⟩) 1 1, .int .i64 0, .int .i64 0] 25)
  exact slRep_one (E := blkEnc) (es := .slice (some ⟨w.heap.size, 0, none⟩) L.length L.length :: trmCells t) hB (lt_of_blk hB) ⟨_, rfl, slRep_rows (E := opEnc) L opCells (fun _ => rfl) hA (lt_of_blk hA) (fun _ _ => rfl)⟩
end Go.Proofs.Ytfadeipdepamlaa
