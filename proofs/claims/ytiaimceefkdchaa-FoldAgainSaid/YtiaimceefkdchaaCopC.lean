/- A block with its copies replaced: plain definitions; how copies.block's memory stands in a round. -/
import Derived.Test.YtiaimceefkdchaaCopB
namespace Go.Proofs.Ytiaimceefkdchaa
open Go.RowKit Go.Maps
set_option linter.unusedVariables false
def upd (f : Int → Option Int) (t v : Int) (k : Int) : Option Int := if k = t then some v else f k
def cpMap (f : Int → Option Int) (o : Opn) : Int → Option Int := if fDst o.kind = true then (if o.kind = 2 ∧ o.a ≠ o.dst then upd (cpForget f o.dst) o.dst o.a else cpForget f o.dst) else f
def cpStep (s : (Int → Option Int) × List Opn) (o : Opn) : (Int → Option Int) × List Opn := (cpMap s.1 (cpOp s.1 o), s.2 ++ [cpOp s.1 o])
def cpList (l : List Opn) : (Int → Option Int) × List Opn := l.foldl cpStep (fun _ => none, [])
def cpTrm (f : Int → Option Int) (t : Trm) : Trm := ⟨t.kind, if t.kind = 2 then cpOf f t.a else t.a, t.yes, t.no⟩
def cpBlk (b : Blk) : Blk := ⟨(cpList b.ops).2, cpTrm (cpList b.ops).1 b.term⟩
theorem cpList_snoc (l : List Opn) (o : Opn) : cpList (l ++ [o]) = cpStep (cpList l) o := by unfold cpList; rw [List.foldl_append]; rfl
theorem cpList_len (l : List Opn) : (cpList l).2.length = l.length := by
  unfold cpList
  have : ∀ (l : List Opn) (s : (Int → Option Int) × List Opn), (l.foldl cpStep s).2.length = s.2.length + l.length := by
    intro l
    induction l with
    | nil => intro s; simp
    | cons o l ih => intro s; rw [List.foldl_cons, ih]; simp [cpStep]; omega
  rw [this]; simp
def zBlk : Array Value := #[.slice none 0 0, .int .i64 0, .int .i64 0, .int .i64 0, .int .i64 0]
/-- A round of copies.block begins: H is the heap's size where the call began. -/
structure CpAt (w0 : World) (H : Nat) (w : World) (bc : Array Value) (ov : Value) (l : List Opn) (f : Int → Option Int) (n : Nat) : Prop where
  bX : w.heap[H]? = some (.cells bc 55 (0, 0))
  bR : w.heap[H + 1]? = some (.cells zBlk 55 (0, 0))
  mp : MapAt w (H + 1 + 1) n f
  bO : w.heap[H + 1 + 1 + 1]? = some (.cells #[ov, .int .i64 0, .int .i64 0, .int .i64 0, .int .i64 0] 55 (0, 0))
  row : w.ownsRow (H + 4) 58 6 ov l.length (opsCells l)
  bel : Below H w0 w
  siz : H + 4 ≤ w.heap.size
section
variable {w0 w w' : World} {H : Nat} {bc : Array Value} {ov : Value} {l : List Opn} {f : Int → Option Int} {n : Nat}
theorem CpAt.below (h : CpAt w0 H w bc ov l f n) (hb : Below w.heap.size w w') : CpAt w0 H w' bc ov l f n :=
  ⟨(hb.block _ (lt_of_blk h.bX)).trans h.bX, (hb.block _ (lt_of_blk h.bR)).trans h.bR, h.mp.below hb, (hb.block _ (lt_of_blk h.bO)).trans h.bO, own_below h.row hb, h.bel.trans (hb.mono (by have := h.siz; omega)), by have := h.siz; have := hb.size; omega⟩
theorem CpAt.setOther (h : CpAt w0 H w bc ov l f n) (q : Addr) (u : Value) (hq : H + 4 ≤ q.block) (ho : ov.ownBlock ≠ some q.block) : CpAt w0 H (w.setCell q u) bc ov l f n :=
  ⟨blk_far h.bX q u (by omega), blk_far h.bR q u (by omega), h.mp.setCell q u (by omega), blk_far h.bO q u (by omega),
    h.row.kept (grown_setCell w q u) (by cases hv : ov.ownBlock with
      | none => exact Or.inl rfl
      | some r => exact Or.inr (fun e => ho (hv.trans e))), h.bel.setCell (by omega) u, by have := h.siz; simp [World.setCell]; exact this⟩
theorem CpAt.map (h : CpAt w0 H w bc ov l f n) (hg : w.grownBy w' (some (H + 1 + 1))) {f' : Int → Option Int} {n' : Nat} (hm : MapAt w' (H + 1 + 1) n' f') : CpAt w0 H w' bc ov l f' n' :=
  ⟨(hg.block _ (lt_of_blk h.bX) (by simp; omega)).trans h.bX, (hg.block _ (lt_of_blk h.bR) (by simp)).trans h.bR, hm, (hg.block _ (lt_of_blk h.bO) (by simp)).trans h.bO,
    h.row.kept hg (by cases hv : ov.ownBlock with
      | none => exact Or.inl rfl
      | some r => exact Or.inr (fun e => by injection e with e; have := (h.row.lt r hv).1; omega)),
    h.bel.grown hg (by have := h.siz; omega) (fun r hr => by injection hr with hr; omega), by have := h.siz; have := hg.size; omega⟩
/-- One operation more: the append, and the store of the longer row. -/
theorem CpAt.push (h : CpAt w0 H w bc ov l f n) (o : Opn) (hn : l.length ≤ 2000000) :
    ∃ v' w3, (Builtin.append_ #[51, 51] 51 #[ov, .slice (some ⟨w.heap.size, 0, none⟩) 1 1]).run Try.prog (w.alloc (.cells #[.int .i64 o.kind, .int .i64 o.dst, .int .i64 o.a, .int .i64 o.b, .int .i64 o.c, .int .i64 o.imm] 58)) = .ok v' w3 ∧
      w3.cell? ⟨H + 1 + 1 + 1, 0, none⟩ = some ov ∧ w3.frozen? ⟨H + 1 + 1 + 1, 0, none⟩ = false ∧ CpAt w0 H (w3.setCell ⟨H + 1 + 1 + 1, 0, none⟩ v') bc v' (l ++ [o]) f n ∧
      (∀ {g x}, w.heap[g]? = some x → H + 4 ≤ g → ov.ownBlock ≠ some g → (w3.setCell ⟨H + 1 + 1 + 1, 0, none⟩ v').heap[g]? = some x) ∧ (∃ A c, v' = .slice A (l.length + 1) c) ∧ (v'.ownBlock = ov.ownBlock ∨ v'.ownBlock = some (w.heap.size + 1)) := by
  obtain ⟨v', w3, a1, a2, a3, a4⟩ := run_append_op w (H + 4) ov l h.row o hn h.siz
  have hs := h.siz
  have hold : ∀ {g x}, w.heap[g]? = some x → ov.ownBlock ≠ some g → w3.heap[g]? = some x := by
    intro g x hg hne
    have hlb := lt_of_blk hg
    exact (a3.block g (by simp; omega) (fun e => hne e.symm)).trans (((bnew w _).block g hlb).trans hg)
  have hlow : ∀ g, g < H + 4 → ov.ownBlock ≠ some g := fun g hg e => by have := (h.row.lt g e).1; omega
  have k0 := hold h.bO (hlow _ (by omega))
  have hX := hold h.bX (hlow _ (by omega))
  have hR := hold h.bR (hlow _ (by omega))
  have hM : MapAt w3 (H + 1 + 1) n f := (h.mp.below (bnew w _)).keep a3 (fun e => hlow (H + 1 + 1) (by omega) e.symm)
  have hB3 : Below H w0 w3 := (h.bel.alloc (by omega) _).grown a3 (by simp; omega) (fun r hr => by have := (h.row.lt r hr).1; omega)
  have hs3 : H + 4 ≤ w3.heap.size := by have := a3.size; simp at this; omega
  refine ⟨v', w3, a1, (cell_of_blk k0 0).1, (cell_of_blk k0 0).2, ⟨blk_far hX _ _ (by show H + 1 + 1 + 1 ≠ H; omega), blk_far hR _ _ (by show H + 1 + 1 + 1 ≠ H + 1; omega), hM.setCell _ _ (by show H + 1 + 1 + 1 ≠ H + 1 + 1; omega), blk_set k0 0 v', ?_, hB3.setCell (by show H ≤ H + 1 + 1 + 1; omega) _, by simp [World.setCell]; exact hs3⟩, ?_, ?_, a4⟩
  · exact own_setCell a2 _ _ (by show H + 1 + 1 + 1 < H + 4; omega)
  · intro g x hg hgH hne
    exact blk_far (hold hg hne) _ _ (by show H + 1 + 1 + 1 ≠ g; omega)
  · obtain ⟨A, c, e⟩ := ownN_len a2
    exact ⟨A, c, by rw [e]; simp⟩
end
end Go.Proofs.Ytiaimceefkdchaa
