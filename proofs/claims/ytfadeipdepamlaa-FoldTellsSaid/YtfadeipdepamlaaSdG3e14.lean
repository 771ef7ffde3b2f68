/- Parts of a proof, joined. No condition but those that each theorem names. -/
import Derived.WalkKit
import Derived.OpenShut
import Derived.Below
import Derived.Lib.Hide
import Derived.Laws.OwnMore
import Derived.Deep.QuietTactic
import Derived.Deep.AppendLies
import Derived.ProofKit
import Derived.SizedLaws
import Derived.Test.YtfadeipdepamlaaProg
import Derived.Handy
import Derived.Deep.RegionHeld3
import Derived.BigQuiet
import Derived.Maps.AppendAt
import Derived.Maps.RangeWalk
import Derived.Maps.OwnSet
import Derived.StillTailTactics
import Derived.Laws.CopyOwn
import Derived.Lib.BufferWrite
import Derived.OrdersHeld
import Derived.RegionTactic
import Derived.Test.YtfadeipdepamlaaSdG0e0
import Derived.Test.YtfadeipdepamlaaSdG0e1
import Derived.Test.YtfadeipdepamlaaSdIr
import Derived.Test.YtfadeipdepamlaaSdG1e2
import Derived.Test.YtfadeipdepamlaaSdG1e4
import Derived.Test.YtfadeipdepamlaaSdIrC
import Derived.Test.YtfadeipdepamlaaSdG2e5
import Derived.Test.YtfadeipdepamlaaSdG2e6
import Derived.Test.YtfadeipdepamlaaSdG2e10
import Derived.Test.YtfadeipdepamlaaSdG2e13
import Derived.Test.YtfadeipdepamlaaSdCopB
import Derived.Test.YtfadeipdepamlaaSdG0e7
import Derived.Test.YtfadeipdepamlaaSdG0e3
import Derived.Test.YtfadeipdepamlaaSdG1e8
import Derived.Test.YtfadeipdepamlaaSdG1e13
namespace Go.Proofs.Ytfadeipdepamlaa
open Go.RowKit Go.Maps
set_option linter.unusedVariables false
def upd (f : Int → Option Int) (t v : Int) (k : Int) : Option Int := if k = t then some v else f k
def cpMap (f : Int → Option Int) (o : Opn) : Int → Option Int := if fDst o.kind = true then (if o.kind = 2 ∧ o.a ≠ o.dst then upd (cpForget f o.dst) o.dst o.a else cpForget f o.dst) else f
def cpStep (s : (Int → Option Int) × List Opn) (o : Opn) : (Int → Option Int) × List Opn := (cpMap s.1 (cpOp s.1 o), s.2 ++ [cpOp s.1 o])
def cpList (l : List Opn) : (Int → Option Int) × List Opn := l.foldl cpStep (fun _ => none, [])
def cpTrm (f : Int → Option Int) (t : Trm) : Trm := ⟨t.kind, if t.kind = 2 then cpOf f t.a else t.a, t.yes, t.no⟩
def cpBlk (b : Blk) : Blk := ⟨(cpList b.ops).2, cpTrm (cpList b.ops).1 b.term⟩
theorem cpList_snoc (l : List Opn) (o : Opn) : cpList (l ++ [o]) = cpStep (cpList l) o := by unfold cpList; rw [List.foldl_append]; rfl
theorem cpList_len (l : List Opn) : (cpList l).2.length = l.length := by
  unfold cpList
  have : ∀ (l : List Opn) (s : (Int → Option Int) × List Opn), (l.foldl cpStep s).2.length = s.2.length + l.length := by
    intro l
    induction l with
    | nil => intro s; simp
    | cons o l ih => intro s; rw [List.foldl_cons, ih]; simp [cpStep]; omega
  rw [this]; simp
def zBlk : Array Value := #[.slice none 0 0, .int .i64 0, .int .i64 0, .int .i64 0, .int .i64 0]
/-- A round of copies.block begins: H is the heap's size where the call began. -/
structure CpAt (w0 : World) (H : Nat) (w : World) (bc : Array Value) (ov : Value) (l : List Opn) (f : Int → Option Int) (n : Nat) : Prop where
  bX : w.heap[H]? = some (.cells bc 39 (0, 0))
  bR : w.heap[H + 1]? = some (.cells zBlk 39 (0, 0))
  mp : MapAt w (H + 1 + 1) n f
  bO : w.heap[H + 1 + 1 + 1]? = some (.cells #[ov, .int .i64 0, .int .i64 0, .int .i64 0, .int .i64 0] 39 (0, 0))
  row : w.ownsRow (H + 4) 41 6 ov l.length (opsCells l)
  bel : Below H w0 w
  siz : H + 4 ≤ w.heap.size
section
variable {w0 w w' : World} {H : Nat} {bc : Array Value} {ov : Value} {l : List Opn} {f : Int → Option Int} {n : Nat}
theorem CpAt.below (h : CpAt w0 H w bc ov l f n) (hb : Below w.heap.size w w') : CpAt w0 H w' bc ov l f n :=
  ⟨(hb.block _ (lt_of_blk h.bX)).trans h.bX, (hb.block _ (lt_of_blk h.bR)).trans h.bR, h.mp.below hb, (hb.block _ (lt_of_blk h.bO)).trans h.bO, own_below h.row hb, h.bel.trans (hb.mono (by have := h.siz; omega)), by have := h.siz; have := hb.size; omega⟩
theorem CpAt.setOther (h : CpAt w0 H w bc ov l f n) (q : Addr) (u : Value) (hq : H + 4 ≤ q.block) (ho : ov.ownBlock ≠ some q.block) : CpAt w0 H (w.setCell q u) bc ov l f n :=
  ⟨blk_far h.bX q u (by omega), blk_far h.bR q u (by omega), h.mp.setCell q u (by omega), blk_far h.bO q u (by omega),
    h.row.kept (grown_setCell w q u) (by cases hv : ov.ownBlock with
      | none => exact Or.inl rfl
      | some r => exact Or.inr (fun e => ho (hv.trans e))), h.bel.setCell (by omega) u, by have := h.siz; simp [World.setCell]; exact this⟩
theorem CpAt.map (h : CpAt w0 H w bc ov l f n) (hg : w.grownBy w' (some (H + 1 + 1))) {f' : Int → Option Int} {n' : Nat} (hm : MapAt w' (H + 1 + 1) n' f') : CpAt w0 H w' bc ov l f' n' :=
  ⟨(hg.block _ (lt_of_blk h.bX) (by simp; omega)).trans h.bX, (hg.block _ (lt_of_blk h.bR) (by simp)).trans h.bR, hm, (hg.block _ (lt_of_blk h.bO) (by simp)).trans h.bO,
    h.row.kept hg (by cases hv : ov.ownBlock with
      | none => exact Or.inl rfl
      | some r => exact Or.inr (fun e => by injection e with e; have := (h.row.lt r hv).1; omega)),
    h.bel.grown hg (by have := h.siz; omega) (fun r hr => by injection hr with hr; omega), by have := h.siz; have := hg.size; omega⟩
/-- One operation more: the append, and the store of the longer row. -/
theorem CpAt.push (h : CpAt w0 H w bc ov l f n) (o : Opn) (hn : l.length ≤ 2000000) :
    ∃ v' w3, (Builtin.append_ #[34, 34] 34 #[ov, .slice (some ⟨w.heap.size, 0, none⟩) 1 1]).run Try.prog (w.alloc (.cells #[.int .i64 o.kind, .int .i64 o.dst, .int .i64 o.a, .int .i64 o.b, .int .i64 o.c, .int .i64 o.imm] 41)) = .ok v' w3 ∧
      w3.cell? ⟨H + 1 + 1 + 1, 0, none⟩ = some ov ∧ w3.frozen? ⟨H + 1 + 1 + 1, 0, none⟩ = false ∧ CpAt w0 H (w3.setCell ⟨H + 1 + 1 + 1, 0, none⟩ v') bc v' (l ++ [o]) f n ∧
      (∀ {g x}, w.heap[g]? = some x → H + 4 ≤ g → ov.ownBlock ≠ some g → (w3.setCell ⟨H + 1 + 1 + 1, 0, none⟩ v').heap[g]? = some x) ∧ (∃ A c, v' = .slice A (l.length + 1) c) ∧ (v'.ownBlock = ov.ownBlock ∨ v'.ownBlock = some (w.heap.size + 1)) := by
  obtain ⟨v', w3, a1, a2, a3, a4⟩ := run_append_op w (H + 4) ov l h.row o hn h.siz
  have hs := h.siz
  have hold : ∀ {g x}, w.heap[g]? = some x → ov.ownBlock ≠ some g → w3.heap[g]? = some x := by
    intro g x hg hne
    have hlb := lt_of_blk hg
    exact (a3.block g (by simp; omega) (fun e => hne e.symm)).trans (((bnew w _).block g hlb).trans hg)
  have hlow : ∀ g, g < H + 4 → ov.ownBlock ≠ some g := fun g hg e => by have := (h.row.lt g e).1; omega
  have k0 := hold h.bO (hlow _ (by omega))
  have hX := hold h.bX (hlow _ (by omega))
  have hR := hold h.bR (hlow _ (by omega))
  have hM : MapAt w3 (H + 1 + 1) n f := (h.mp.below (bnew w _)).keep a3 (fun e => hlow (H + 1 + 1) (by omega) e.symm)
  have hB3 : Below H w0 w3 := (h.bel.alloc (by omega) _).grown a3 (by simp; omega) (fun r hr => by have := (h.row.lt r hr).1; omega)
  have hs3 : H + 4 ≤ w3.heap.size := by have := a3.size; simp at this; omega
  refine ⟨v', w3, a1, (cell_of_blk k0 0).1, (cell_of_blk k0 0).2, ⟨blk_far hX _ _ (by show H + 1 + 1 + 1 ≠ H; omega), blk_far hR _ _ (by show H + 1 + 1 + 1 ≠ H + 1; omega), hM.setCell _ _ (by show H + 1 + 1 + 1 ≠ H + 1 + 1; omega), blk_set k0 0 v', ?_, hB3.setCell (by show H ≤ H + 1 + 1 + 1; omega) _, by simp [World.setCell]; exact hs3⟩, ?_, ?_, a4⟩
  · exact own_setCell a2 _ _ (by show H + 1 + 1 + 1 < H + 4; omega)
  · intro g x hg hgH hne
    exact blk_far (hold hg hne) _ _ (by show H + 1 + 1 + 1 ≠ g; omega)
  · obtain ⟨A, c, e⟩ := ownN_len a2
    exact ⟨A, c, by rw [e]; simp⟩
end
end Go.Proofs.Ytfadeipdepamlaa
namespace Go.Proofs.Ytfadeipdepamlaa
open Go.RowKit
set_option linter.unusedVariables false
/-- The list holds just the map's pairs. -/
def PairsOf (l : List (Int × Int)) (f : Int → Option Int) : Prop := ∀ t u, (t, u) ∈ l ↔ f t = some u
def pairCells (x : Int × Int) : List Value := [.int .i64 x.1, .int .i64 x.2]
def pairEnc : Enc (Int × Int) := flatEnc 2 pairCells (fun _ => rfl)
def pairsCells (l : List (Int × Int)) : List Value := l.flatMap pairCells
theorem pairsCells_snoc (l : List (Int × Int)) (x : Int × Int) : pairsCells (l ++ [x]) = pairsCells l ++ pairCells x := by unfold pairsCells; rw [List.flatMap_append]; simp
theorem pair_info : (Try.prog.info? 72).map (fun i => (i.zero, i.size, i.bytes)) = some (some (.agg #[.int .i64 0, .int .i64 0]), 2, 16) := by kernel_rfl
theorem run_append_pair (w : World) (base : Nat) (v : Value) (l : List (Int × Int)) (hown : w.ownsRow base 72 2 v l.length (pairsCells l)) (a b : Int) (hn : l.length ≤ 2000000) (hbase : base ≤ w.heap.size) :
    ∃ v' w', (Builtin.append_ #[67, 67] 67 #[v, .slice (some ⟨w.heap.size, 0, none⟩) 1 1]).run Try.prog (w.alloc (.cells #[.int .i64 a, .int .i64 b] 72)) = .ok v' w' ∧
      w'.ownsRow base 72 2 v' (l ++ [(a, b)]).length (pairsCells (l ++ [(a, b)])) ∧ (w.alloc (.cells #[.int .i64 a, .int .i64 b] 72)).grownBy w' v.ownBlock ∧ (v'.ownBlock = v.ownBlock ∨ v'.ownBlock = some (w.heap.size + 1)) := by
  obtain ⟨i0, hi, hz0, hz1, hz2⟩ := info_parts pair_info
  obtain ⟨v', w', h1, h2, h3, h4⟩ := run_append_own_at (P := Try.prog) (w.alloc (.cells (pairCells (a, b)).toArray 72)) base 67 67 72 i0 _ 2 16 Try.underlying67 hi hz0 hz1 hz2 rfl (by omega) v l.length (pairsCells l) (hown.alloc _) ⟨w.heap.size, 0, none⟩ 1 1 (pairCells (a, b)) rfl (World.news_of_block (heap_alloc_new w _)) (by intro u hu; simp [pairCells] at hu; rcases hu with rfl | rfl <;> rfl) (by unfold maxLen; omega) (by omega) (by simp; omega)
  have e : (w.alloc (.cells (pairCells (a, b)).toArray 72)).heap.size = w.heap.size + 1 := by simp
  rw [e] at h4
  refine ⟨v', w', h1, ?_, h3, h4.2⟩
  rw [pairsCells_snoc, List.length_append]
  exact h2
theorem slRep_pairs {w : World} {base B : Nat} {v : Value} {l : List (Int × Int)} (hB : w.heap.size ≤ B) (h : w.ownsRow base 72 2 v l.length (pairsCells l)) : SlRep pairEnc w B v l := by
  refine slRep_own (E := pairEnc) (base := base) (t := 72) l (l.map pairCells) (fun i x hx => ⟨pairCells x, by rw [List.getElem?_map, hx]; rfl, rfl⟩) ?_ hB ?_
  · intro es he
    obtain ⟨o, _, rfl⟩ := List.mem_map.1 he
    rfl
  · rw [← List.flatMap_def]; exact h
theorem pair_at {w : World} {B : Nat} {A : Option Addr} {c : Nat} {l : List (Int × Int)} (h : SlRep pairEnc w B (.slice A l.length c) l) (k : Nat) (hk : k < l.length) :
    ∃ b off, A = some ⟨b, off, none⟩ ∧ b < B ∧ w.cell? ⟨b, off + k * 2, none⟩ = some (.int .i64 (l.getD k (0, 0)).1) ∧ w.cell? ⟨b, off + k * 2 + 1, none⟩ = some (.int .i64 (l.getD k (0, 0)).2) := by
  obtain ⟨A', c', e, _, h⟩ := h
  injection e with e
  subst e
  obtain ⟨b, off, es, e1, h1, h2, h3⟩ := h k _ (getD_some l k (0, 0) hk)
  have h2 : es = pairCells (l.getD k (0, 0)) := h2
  subst h2
  exact ⟨b, off, e1, h1, h3 0 _ rfl, h3 1 _ rfl⟩
theorem PairsOf.nil_ : PairsOf [] (fun _ => none) := fun t u => by simp
/-- Behind an operation that writes d: those stay that do not touch d. -/
theorem PairsOf.forget {l : List (Int × Int)} {f : Int → Option Int} (h : PairsOf l f) (d : Int) : PairsOf (l.filter fun x => decide (x.1 ≠ d) && decide (x.2 ≠ d)) (cpForget f d) := fun t u => by
  unfold cpForget
  rw [List.mem_filter, h t u]
  simp only [Bool.and_eq_true, decide_eq_true_eq]
  constructor
  · rintro ⟨h1, h2, h3⟩
    rw [if_neg h2, if_neg (by rw [h1]; intro e; injection e with e; exact h3 e), h1]
  · intro e
    by_cases ht : t = d
    · rw [if_pos ht] at e; cases e
    · rw [if_neg ht] at e
      by_cases hf : f t = some d
      · rw [if_pos hf] at e; cases e
      · rw [if_neg hf] at e
        exact ⟨e, ht, fun hu => hf (by rw [e, hu])⟩
theorem PairsOf.put {l : List (Int × Int)} {f : Int → Option Int} (h : PairsOf l f) (d a : Int) (hd : f d = none) : PairsOf (l ++ [(d, a)]) (upd f d a) := fun t u => by
  unfold upd
  rw [List.mem_append, h t u]
  by_cases ht : t = d
  · subst ht
    rw [if_pos rfl, hd]
    simp [eq_comm]
  · rw [if_neg ht]
    simp [ht]
set_option maxHeartbeats 2000000 in
set_option maxRecDepth 100000 in
theorem ref20_of (l : List (Int × Int)) (f : Int → Option Int) (hl : PairsOf l f) (A : Option Addr) (c : Nat) (t : Int) (hn : l.length ≤ 2000000) (w : World) (h : SlRep pairEnc w w.heap.size (.slice A l.length c) l) :
    Calls Try.prog 36 #[.slice A l.length c, .int .i64 t] w fun e w' => e = .returned (.int .i64 (cpOf f t)) ∧ w' = w := by
  have HR := Lib.hid h
  have HL := Lib.hid hl
  clear h hl
  go_enter Try.func36, Try.ntmps36
  go_wp2_with fail
  go_loopw [5] (fun vi wr => ∃ k : Nat, k ≤ l.length ∧ vi = .int .i64 k ∧ wr = w ∧ Hid (∀ x ∈ l.take k, x.1 ≠ t)) (fun vi _ => l.length - (intOf vi).toNat)
  case atStart => exact ⟨0, Nat.zero_le _, rfl, rfl, Lib.hid (fun x hx => by simp at hx)⟩
  case round =>
    obtain ⟨k, hk, rfl, rfl, HT⟩ := hrel
    by_cases hlt : k < l.length
    · obtain ⟨b, off, rfl, _, c0, c1⟩ := pair_at HR.out k hlt
      have hmem := getD_memI l k (0, 0) hlt
      have HTS : Hid (l.take (k + 1) = l.take k ++ [l.getD k (0, 0)]) := Lib.hid (take_succ_getD l k (0, 0) hlt)
      have HM : Hid (l.getD k (0, 0) ∈ l) := Lib.hid hmem
      clear hmem
      generalize l.getD k (0, 0) = x at *
      obtain ⟨x, y⟩ := x
      simp only at c0 c1
      have k0 : (0 : Int) ≤ (k : Int) := by omega
      have k1 : (k : Int) < (l.length : Int) := by omega
      by_cases hx : x = t
      · subst hx
        go_wp2_with fail
        go_ret
        have hf := (HL.out x y).1 HM.out
        exact ⟨ret_int (by unfold cpOf; rw [hf]; rfl), by first | trivial | rfl⟩
      · have q : (x == t) = false := by rw [beq_eq_false_iff_ne]; exact hx
        have HX := Lib.hid hx
        clear hx
        go_wp2_with fail
        go_roundw
        case rel => exact ⟨k + 1, by omega, by go_num, by first | rfl | trivial, Lib.hid (fun z hz => by
          rw [HTS.out] at hz
          rcases List.mem_append.1 hz with hz | hz
          · exact HT.out z hz
          · rw [List.mem_singleton.1 hz]; exact HX.out)⟩
        case measure => simp [intOf]; omega
    · obtain rfl : k = l.length := by omega
      go_wp2_with fail
      go_ret
      refine ⟨ret_int ?_, by first | trivial | rfl⟩
      unfold cpOf
      cases hf : f t with
      | none => rfl
      | some u =>
        have hm := (HL.out t u).2 hf
        exact absurd rfl (HT.out (t, u) (by rw [List.take_length]; exact hm))
end Go.Proofs.Ytfadeipdepamlaa
namespace Go.Proofs.Ytfadeipdepamlaa
open Go.RowKit
set_option linter.unusedVariables false
/-- One pair more at the end of a row of the call's own. -/
theorem pair_push {w0 w : World} {B : Nat} {v : Value} {l : List (Int × Int)} (hO : w.ownsRow B 72 2 v l.length (pairsCells l)) (hB : Below B w0 w) (hn : l.length ≤ 2000000) (hs : B ≤ w.heap.size) (a b : Int) :
    ∃ A c w', (Builtin.append_ #[67, 67] 67 #[v, .slice (some ⟨w.heap.size, 0, none⟩) 1 1]).run Try.prog (w.alloc (.cells #[.int .i64 a, .int .i64 b] 72)) = .ok (.slice A (l.length + 1) c) w' ∧
      w'.ownsRow B 72 2 (.slice A (l.length + 1) c) (l ++ [(a, b)]).length (pairsCells (l ++ [(a, b)])) ∧ Below B w0 w' ∧ B ≤ w'.heap.size := by
  obtain ⟨v', w', h1, h2, h3, _⟩ := run_append_pair w B v l hO a b hn hs
  have hlt := fun b e => (hO.lt b e).1
  obtain ⟨A, c, rfl⟩ := ownN_len h2
  have hl : (l ++ [(a, b)]).length = l.length + 1 := by simp
  rw [hl] at h1 h2 ⊢
  exact ⟨A, c, w', h1, h2, (hB.alloc hs _).grown h3 (by simp; omega) (fun b e => hlt b e), by have := h3.size; simp at this; omega⟩
/-- A round begins: H is the heap's size where the call began. -/
structure RbAt (w0 : World) (H : Nat) (w : World) (bc : Array Value) (ov lv : Value) (l : List Opn) (pl : List (Int × Int)) : Prop where
  bX : w.heap[H]? = some (.cells bc 39 (0, 0))
  bR : w.heap[H + 1]? = some (.cells zBlk 39 (0, 0))
  bO : w.heap[H + 1 + 1]? = some (.cells #[ov, .int .i64 0, .int .i64 0, .int .i64 0, .int .i64 0] 39 (0, 0))
  row : w.ownsRow (H + 3) 41 6 ov l.length (opsCells l)
  prow : w.ownsRow (H + 3) 72 2 lv pl.length (pairsCells pl)
  dis : ∀ r, ov.ownBlock = some r → lv.ownBlock ≠ some r
  bel : Below H w0 w
  siz : H + 3 ≤ w.heap.size
section
variable {w0 w w' : World} {H : Nat} {bc : Array Value} {ov lv : Value} {l : List Opn} {pl : List (Int × Int)}
theorem RbAt.below (h : RbAt w0 H w bc ov lv l pl) (hb : Below w.heap.size w w') : RbAt w0 H w' bc ov lv l pl :=
  ⟨(hb.block _ (lt_of_blk h.bX)).trans h.bX, (hb.block _ (lt_of_blk h.bR)).trans h.bR, (hb.block _ (lt_of_blk h.bO)).trans h.bO, own_below h.row hb, own_below h.prow hb, h.dis, h.bel.trans (hb.mono (by have := h.siz; omega)), by have := h.siz; have := hb.size; omega⟩
theorem RbAt.setOther (h : RbAt w0 H w bc ov lv l pl) (q : Addr) (u : Value) (hq : H + 3 ≤ q.block) (ho : ov.ownBlock ≠ some q.block) (hl : lv.ownBlock ≠ some q.block) : RbAt w0 H (w.setCell q u) bc ov lv l pl :=
  ⟨blk_far h.bX q u (by omega), blk_far h.bR q u (by omega), blk_far h.bO q u (by omega),
    h.row.kept (grown_setCell w q u) (by cases hv : ov.ownBlock with
      | none => exact Or.inl rfl
      | some r => exact Or.inr (fun e => ho (hv.trans e))),
    h.prow.kept (grown_setCell w q u) (by cases hv : lv.ownBlock with
      | none => exact Or.inl rfl
      | some r => exact Or.inr (fun e => hl (hv.trans e))), h.dis, h.bel.setCell (by omega) u, by have := h.siz; simp [World.setCell]; exact this⟩
/-- One operation more: the append, and the store of the longer row. -/
theorem RbAt.push (h : RbAt w0 H w bc ov lv l pl) (o : Opn) (hn : l.length ≤ 2000000) :
    ∃ A c w3, (Builtin.append_ #[34, 34] 34 #[ov, .slice (some ⟨w.heap.size, 0, none⟩) 1 1]).run Try.prog (w.alloc (.cells #[.int .i64 o.kind, .int .i64 o.dst, .int .i64 o.a, .int .i64 o.b, .int .i64 o.c, .int .i64 o.imm] 41)) = .ok (.slice A (l.length + 1) c) w3 ∧
      w3.cell? ⟨H + 1 + 1, 0, none⟩ = some ov ∧ w3.frozen? ⟨H + 1 + 1, 0, none⟩ = false ∧ RbAt w0 H (w3.setCell ⟨H + 1 + 1, 0, none⟩ (.slice A (l.length + 1) c)) bc (.slice A (l.length + 1) c) lv (l ++ [o]) pl ∧
      (∀ {g x}, w.heap[g]? = some x → H + 3 ≤ g → ov.ownBlock ≠ some g → (w3.setCell ⟨H + 1 + 1, 0, none⟩ (.slice A (l.length + 1) c)).heap[g]? = some x) := by
  obtain ⟨v', w3, a1, a2, a3, a4⟩ := run_append_op w (H + 3) ov l h.row o hn h.siz
  have hs := h.siz
  obtain ⟨A, c, e⟩ := ownN_len a2
  have hl : (l ++ [o]).length = l.length + 1 := by simp
  rw [hl] at e
  subst e
  have hold : ∀ {g x}, w.heap[g]? = some x → ov.ownBlock ≠ some g → w3.heap[g]? = some x := by
    intro g x hg hne
    have hlb := lt_of_blk hg
    exact (a3.block g (by simp; omega) (fun e => hne e.symm)).trans (((bnew w _).block g hlb).trans hg)
  have hlow : ∀ g, g < H + 3 → ov.ownBlock ≠ some g := fun g hg e => by have := (h.row.lt g e).1; omega
  have k0 := hold h.bO (hlow _ (by omega))
  have hX := hold h.bX (hlow _ (by omega))
  have hR := hold h.bR (hlow _ (by omega))
  have hP := (h.prow.alloc (.cells #[.int .i64 o.kind, .int .i64 o.dst, .int .i64 o.a, .int .i64 o.b, .int .i64 o.c, .int .i64 o.imm] 41)).kept a3 (by cases hv : lv.ownBlock with
      | none => exact Or.inl rfl
      | some r => exact Or.inr (fun e => h.dis r e.symm hv))
  have hB3 : Below H w0 w3 := (h.bel.alloc (by omega) _).grown a3 (by simp; omega) (fun r hr => by have := (h.row.lt r hr).1; omega)
  have hs3 : H + 3 ≤ w3.heap.size := by have := a3.size; simp at this; omega
  refine ⟨A, c, w3, a1, (cell_of_blk k0 0).1, (cell_of_blk k0 0).2, ⟨blk_far hX _ _ (by show H + 1 + 1 ≠ H; omega), blk_far hR _ _ (by show H + 1 + 1 ≠ H + 1; omega), blk_set k0 0 _, ?_, ?_, ?_, hB3.setCell (by show H ≤ H + 1 + 1; omega) _, by simp [World.setCell]; exact hs3⟩, ?_⟩
  · exact own_setCell a2 _ _ (by show H + 1 + 1 < H + 3; omega)
  · exact own_setCell hP _ _ (by show H + 1 + 1 < H + 3; omega)
  · intro r hr
    rcases a4 with a4 | a4
    · exact h.dis r (a4 ▸ hr)
    · intro e
      rw [a4] at hr
      injection hr with hr
      have := (h.prow.lt r e).2
      omega
  · intro g x hg hgH hne
    exact blk_far (hold hg hne) _ _ (by show H + 1 + 1 ≠ g; omega)
/-- The list of pairs gives way to one that was made behind it. -/
theorem RbAt.swap {B : Nat} {rv : Value} {pl' : List (Int × Int)} (h : RbAt w0 H w bc ov lv l pl) (hB : w.heap.size ≤ B) (hb : Below w.heap.size w w') (hr : w'.ownsRow B 72 2 rv pl'.length (pairsCells pl')) : RbAt w0 H w' bc ov rv l pl' := by
  have h2 := h.below hb
  have hs := h.siz
  refine ⟨h2.bX, h2.bR, h2.bO, h2.row, own_more hr (by omega), fun r e e2 => ?_, h2.bel, h2.siz⟩
  have h3 := (h.row.lt r e).2
  have h4 := (hr.lt r e2).1
  omega
end
end Go.Proofs.Ytfadeipdepamlaa
namespace Go.Proofs.Ytfadeipdepamlaa
open Go.RowKit
set_option linter.unusedVariables false
def cpIr (p : Ir) : Ir := ⟨p.temps, p.arrays, p.blocks.map cpBlk, p.inp, p.out⟩
theorem cpMap_eq {f : Int → Option Int} {o : Opn} (h : fDst o.kind = true) : cpMap f o o.dst = if o.kind = 2 ∧ o.a ≠ o.dst then some o.a else none := by
  unfold cpMap
  rw [if_pos h]
  split
  · unfold upd; rw [if_pos rfl]
  · unfold cpForget; rw [if_pos rfl]
theorem cpMap_ne {f : Int → Option Int} {o : Opn} {t : Int} (h : fDst o.kind = true) (hne : t ≠ o.dst) : cpMap f o t = if f t = some o.dst then none else f t := by
  unfold cpMap
  rw [if_pos h]
  split
  · unfold upd; rw [if_neg hne]; unfold cpForget; rw [if_neg hne]
  · unfold cpForget; rw [if_neg hne]
theorem cpMap_no {f : Int → Option Int} {o : Opn} (h : ¬ fDst o.kind = true) : cpMap f o = f := by unfold cpMap; rw [if_neg h]
structure CpOk (p : Ir) (f : Int → Option Int) : Prop where
  tmp : ∀ t u, f t = some u → isTemp p t ∧ isTemp p u
  end_ : ∀ t u, f t = some u → f u = none
theorem CpOk.map {p : Ir} {f : Int → Option Int} (h : CpOk p f) {q : Opn} (hd : fDst q.kind = true → isTemp p q.dst) (ha : q.kind = 2 → isTemp p q.a ∧ f q.a = none) : CpOk p (cpMap f q) := by
  by_cases hm : fDst q.kind = true
  · refine ⟨fun t u e => ?_, fun t u e => ?_⟩
    · by_cases ht : t = q.dst
      · subst ht
        rw [cpMap_eq hm] at e
        split at e
        · rename_i hc
          injection e with e
          subst e
          exact ⟨hd hm, (ha hc.1).1⟩
        · cases e
      · rw [cpMap_ne hm ht] at e
        split at e
        · cases e
        · exact h.tmp t u e
    · by_cases ht : t = q.dst
      · subst ht
        rw [cpMap_eq hm] at e
        split at e
        · rename_i hc
          injection e with e
          subst e
          rw [cpMap_ne hm hc.2, (ha hc.1).2]
          simp
        · cases e
      · rw [cpMap_ne hm ht] at e
        split at e
        · cases e
        · rename_i hne
          have hu : u ≠ q.dst := fun hu => hne (by rw [e, hu])
          rw [cpMap_ne hm hu, h.end_ t u e]
          simp
  · rw [cpMap_no hm]; exact h
theorem cpOf_none {f : Int → Option Int} (h : ∀ t u, f t = some u → f u = none) (t : Int) : f (cpOf f t) = none := by
  unfold cpOf
  cases e : f t with
  | none => exact e
  | some u => exact h t u e
theorem CpOk.of {p : Ir} {f : Int → Option Int} (h : CpOk p f) {t : Int} (ht : isTemp p t) : isTemp p (cpOf f t) := by
  unfold cpOf
  cases e : f t with
  | none => exact ht
  | some u => exact (h.tmp t u e).2
theorem CpOk.op {p : Ir} {f : Int → Option Int} (h : CpOk p f) {o : Opn} (ho : opP p o) : opP p (cpOp f o) := by
  obtain ⟨o1, o2, o4, o5, o6, o7, o8⟩ := ho
  have hf : ∀ (n : Nat) (t : Int), fieldP p (decide (n < fSrc o.kind)) t → fieldP p (decide (n < fSrc o.kind)) (if n < fSrc o.kind then cpOf f t else t) := by
    intro n t ht
    by_cases hn : n < fSrc o.kind
    · rw [if_pos hn]
      rw [decide_eq_true hn] at ht ⊢
      exact h.of ht
    · rw [if_neg hn]; exact ht
  exact ⟨o1, o2, o4, hf 0 _ o5, hf 1 _ o6, hf 2 _ o7, o8⟩
theorem opP_dst {p : Ir} {o : Opn} (ho : opP p o) (h : fDst o.kind = true) : isTemp p o.dst := by
  have h3 := ho.2.2.1
  rw [h] at h3
  exact h3
theorem opP_a {p : Ir} {o : Opn} (ho : opP p o) (h : o.kind = 2) : isTemp p o.a := by
  have h3 := ho.2.2.2.1
  rw [h] at h3
  exact h3
theorem cpOp_a2 (f : Int → Option Int) {o : Opn} (h : o.kind = 2) : (cpOp f o).a = cpOf f o.a := by
  unfold cpOp
  simp only
  rw [h]; rfl
theorem CpOk.step {p : Ir} {f : Int → Option Int} (h : CpOk p f) {o : Opn} (ho : opP p o) : CpOk p (cpMap f (cpOp f o)) := by
  have hq := h.op ho
  refine h.map (fun hd => opP_dst hq hd) (fun hk => ⟨opP_a hq hk, ?_⟩)
  have hk : o.kind = 2 := hk
  rw [cpOp_a2 f hk]
  exact cpOf_none h.end_ _
/-- What stands for another one holds the same. -/
def CpSt (f : Int → Option Int) (ts : List Int) : Prop := ∀ t u, f t = some u → rdT ts t = rdT ts u
theorem CpSt.of {f : Int → Option Int} {ts : List Int} (h : CpSt f ts) (t : Int) : rdT ts (cpOf f t) = rdT ts t := by
  unfold cpOf
  cases e : f t with
  | none => rfl
  | some u => exact (h t u e).symm
theorem step_ts {p : Ir} {s s' : St} {o : Opn} (h : stepP p s o = some s') (hk : fOk o.kind = true) :
    (fDst o.kind = true → ∃ v, s'.ts = s.ts.set o.dst.toNat v ∧ (o.kind = 2 → v = ((wd (rdT s.ts o.a) : Nat) : Int)) ∧ (∀ n, pureP s.ts o = some n → v = (n : Int))) ∧ (¬ fDst o.kind = true → s'.ts = s.ts) := by
  unfold stepP at h
  cases hp : pureP s.ts o with
  | some v =>
    rw [hp] at h
    injection h with h
    subst h
    refine ⟨fun _ => ⟨v, rfl, fun h2 => ?_, fun n e => by injection e with e; rw [e]⟩, fun hd => ?_⟩
    · unfold pureP valP at hp
      rw [if_neg (by omega), if_pos h2] at hp
      injection hp with hp
      rw [← hp]
      unfold srcP
      rw [h2]; rfl
    · exfalso
      have hn : o.kind = 19 := by
        unfold fOk at hk
        unfold fDst at hd
        simp only [decide_eq_true_eq] at hk hd
        omega
      unfold pureP valP at hp
      rw [hn] at hp
      simp at hp
  | none =>
    rw [hp] at h
    simp only at h
    split at h
    · cases h
    · split at h
      · rename_i hk18
        injection h with h
        subst h
        refine ⟨fun _ => ⟨_, rfl, fun h2 => by omega, fun n e => by (cases e)⟩, fun hd => ?_⟩
        exfalso; apply hd; unfold fDst; rw [decide_eq_true_eq]; omega
      · rename_i hk18
        injection h with h
        subst h
        refine ⟨fun hd => ?_, fun _ => rfl⟩
        exfalso
        rcases valP_none hp hk with e | e
        · exact hk18 e
        · unfold fDst at hd; rw [decide_eq_true_eq] at hd; omega
theorem rdT_set {p : Ir} {ts : List Int} (hl : ts.length = p.temps.toNat) {d t : Int} (hd : isTemp p d) (ht : 0 ≤ t) (v : Int) : rdT (ts.set d.toNat v) t = if t = d then v else rdT ts t := by
  obtain ⟨d0, d1⟩ := hd
  unfold rdT
  by_cases e : t = d
  · subst e; rw [if_pos rfl, getD_set_self _ _ _ _ (by omega)]
  · rw [if_neg e, getD_set_ne _ _ _ _ _ (by omega)]
theorem wd_rdT {ts : List Int} (h : ∀ x ∈ ts, wordR x) (t : Int) : ((wd (rdT ts t) : Nat) : Int) = rdT ts t := by
  have hw := rdT_word h t
  rw [wd_cast]
  unfold wordR at hw
  omega
theorem CpSt.step {p : Ir} {f : Int → Option Int} (hf : CpOk p f) {s s' : St} (h : CpSt f s.ts) (hfit : Fit p s) {q : Opn} (hq : opP p q) (hs : stepP p s q = some s') : CpSt (cpMap f q) s'.ts := by
  obtain ⟨h1, h2⟩ := step_ts hs hq.1
  by_cases hd : fDst q.kind = true
  · obtain ⟨v, e, hv, _⟩ := h1 hd
    have hdt := opP_dst hq hd
    rw [e]
    intro t u hu
    by_cases ht : t = q.dst
    · subst ht
      rw [cpMap_eq hd] at hu
      split at hu
      · rename_i hc
        injection hu with hu
        subst hu
        have ha := opP_a hq hc.1
        rw [rdT_set hfit.tl hdt hdt.1, if_pos rfl, rdT_set hfit.tl hdt ha.1, if_neg hc.2, hv hc.1, wd_rdT hfit.tw]
      · cases hu
    · rw [cpMap_ne hd ht] at hu
      split at hu
      · cases hu
      · rename_i hne
        have hud : u ≠ q.dst := fun e => hne (by rw [hu, e])
        obtain ⟨t1, t2⟩ := hf.tmp t u hu
        rw [rdT_set hfit.tl hdt t1.1, if_neg ht, rdT_set hfit.tl hdt t2.1, if_neg hud]
        exact h t u hu
  · rw [h2 hd, cpMap_no hd]; exact h
/-- What is asked of an operation, of an end, speaks of temps, arrays, and how many blocks there are. -/
theorem opP_like {p q : Ir} (hT : q.temps = p.temps) (ha : q.arrays = p.arrays) {o : Opn} (ho : opP p o) : opP q o := by
  unfold opP fieldP isTemp at *
  rw [hT, ha]; exact ho
theorem trmP_like {p q : Ir} (hT : q.temps = p.temps) (hl : q.blocks.length = p.blocks.length) {t : Trm} (ht : trmP p t) : trmP q t := by
  unfold trmP isTemp labelP at *
  rw [hT, hl]; exact ht
theorem opsSum_map {g : Blk → Blk} (hg : ∀ b, (g b).ops.length = b.ops.length) : ∀ l : List Blk, opsSum (l.map g) = opsSum l
  | [] => rfl
  | b :: l => by rw [List.map_cons, opsSum, opsSum, opsSum_map hg l, hg]
end Go.Proofs.Ytfadeipdepamlaa
