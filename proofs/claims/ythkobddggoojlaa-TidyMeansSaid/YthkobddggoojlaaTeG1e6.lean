/- Parts of a proof, joined. No condition but those that each theorem names. -/
import Derived.WalkKit
import Derived.OpenShut
import Derived.Below
import Derived.Lib.Hide
import Derived.Laws.OwnMore
import Derived.Deep.QuietTactic
import Derived.Deep.AppendLies
import Derived.ProofKit
import Derived.SizedLaws
import Derived.Test.YthkobddggoojlaaProg
import Derived.Handy
import Derived.Deep.RegionHeld3
import Derived.BigQuiet
import Derived.Maps.AppendAt
import Derived.Test.YthkobddggoojlaaTeIrC
import Derived.Test.YthkobddggoojlaaTeG0e0
import Derived.Test.YthkobddggoojlaaTeG0e2
import Derived.Test.YthkobddggoojlaaTeG0e4
import Derived.Test.YthkobddggoojlaaTeG0e10
namespace Go.Proofs.Ythkobddggoojlaa
open Go.RowKit
theorem wpList_app {P : Program} {w : World} {ops : Array Oper} {rest : List Oper} {o : Oper} {a : Act} {Q : Exit → Act → World → Prop} (hgd : o.guard = none) (s x : Operand) (t : TypeId)
    (ho : o.op = .call { callee := .builtin .append, args := #[s, x], argTypes := #[t, t] }) {v xv v' : Value} {w' : World} (hrun : (Builtin.append_ #[t, t] o.type #[v, xv]).run P w = .ok v' w') (hs : a.eval s = v) (hx : a.eval x = xv)
    (h : wpList P ops Q rest (a.put o.dst v') w') : wpList P ops Q (o :: rest) a w := by
  refine wpList_plain hgd fun K hK => ?_
  unfold Oper.wp execOp
  simp only [ho, resolve, invoke, builtin, Sem.run_bind, Sem.run_pure, Result.andThen_ok, List.map_toArray, List.map_cons, List.map_nil, hs, hx, hrun]
  exact hK _ _ h
theorem own_setCell {w : World} {base : Nat} {e : TypeId} {size : Nat} {v : Value} {n : Nat} {xs : List Value} (h : w.ownsRow base e size v n xs) (p : Addr) (u : Value) (hp : p.block < base) : (w.setCell p u).ownsRow base e size v n xs := by
  refine h.kept (grown_setCell w p u) ?_
  cases hv : v.ownBlock with
  | none => exact .inl rfl
  | some k => refine .inr fun e => ?_; injection e with e; have := (h.lt k hv).1; omega
theorem int_info : (Try.prog.info? 3).map (fun i => (i.zero, i.size, i.bytes)) = some (some (.int .i64 0), 1, 8) := by kernel_rfl
theorem info_parts {i : Option TypeInfo} {z : Option Value} {n m : Nat} (h : i.map (fun i => (i.zero, i.size, i.bytes)) = some (z, n, m)) : ∃ i0, i = some i0 ∧ i0.zero = z ∧ i0.size = n ∧ i0.bytes = m := by
  cases i with
  | none => cases h
  | some i0 => simp at h; exact ⟨i0, rfl, h.1, h.2.1, h.2.2⟩
theorem run_append_int (w : World) (base : Nat) (v : Value) (n : Nat) (ys : List Value) (hown : w.ownsRow base 3 1 v n ys) (y : Int) (hn : n ≤ 2000000) (hbase : base ≤ w.heap.size) :
    ∃ v' w', (Builtin.append_ #[72, 72] 72 #[v, .slice (some ⟨w.heap.size, 0, none⟩) 1 1]).run Try.prog (w.alloc (.cells #[.int .i64 y] 3)) = .ok v' w' ∧
      w'.ownsRow base 3 1 v' (n + 1) (ys ++ [.int .i64 y]) ∧ (w.alloc (.cells #[.int .i64 y] 3)).grownBy w' v.ownBlock := by
  obtain ⟨i0, hi, hz0, hz1, hz2⟩ := info_parts int_info
  obtain ⟨v', w', h1, h2, h3, _, _⟩ := run_append_own_at (P := Try.prog) (w.alloc (.cells #[.int .i64 y] 3)) base 72 72 3 i0 _ 1 8 Try.underlying72 hi hz0 hz1 hz2 rfl (by omega) v n ys (hown.alloc _) ⟨w.heap.size, 0, none⟩ 1 1 [.int .i64 y] rfl (World.news_of_block (heap_alloc_new w _)) (by intro u hu; simp at hu; rcases hu with rfl; rfl) (by unfold maxLen; omega) (by omega) (by simp; omega)
  exact ⟨v', w', h1, h2, h3⟩
theorem own_form {w : World} {base t : Nat} {v : Value} {n : Nat} {ys : List Value} (h : w.ownsRow base t 1 v (n + 1) ys) : ∃ g cap, v = .slice (some ⟨g, 0, none⟩) (n + 1) cap := by
  rcases h.2 with ⟨_, h2⟩ | ⟨g, cap, cur, rfl, _⟩
  · omega
  · exact ⟨g, cap, rfl⟩
theorem own_len {w : World} {base t : Nat} {v : Value} {n : Nat} {ys : List Value} (h : w.ownsRow base t 1 v n ys) : ∃ A cap, v = .slice A n cap := by
  rcases h.2 with ⟨rfl, rfl⟩ | ⟨g, cap, cur, rfl, _⟩
  · exact ⟨none, 0, rfl⟩
  · exact ⟨_, cap, rfl⟩
theorem own_more {w : World} {B B' : Nat} {t n : Nat} {v : Value} {m : Nat} {ys : List Value} (h : w.ownsRow B t n v m ys) (hB : B' ≤ B) : w.ownsRow B' t n v m ys := by
  refine ⟨h.1, ?_⟩
  rcases h.2 with h2 | ⟨g, cap, cur, h2⟩
  · exact Or.inl h2
  · exact Or.inr ⟨g, cap, cur, h2.1, by have := h2.2.1; omega, h2.2.2⟩
end Go.Proofs.Ythkobddggoojlaa
namespace Go.Proofs.Ythkobddggoojlaa
open Go.RowKit
set_option linter.unusedVariables false
def opsCells (l : List Opn) : List Value := l.flatMap opCells
theorem opsCells_snoc (l : List Opn) (o : Opn) : opsCells (l ++ [o]) = opsCells l ++ opCells o := by unfold opsCells; rw [List.flatMap_append]; simp
theorem op_info : (Try.prog.info? 46).map (fun i => (i.zero, i.size, i.bytes)) = some (some (.agg #[.int .i64 0, .int .i64 0, .int .i64 0, .int .i64 0, .int .i64 0, .int .i64 0]), 6, 48) := by kernel_rfl
theorem blk_info : (Try.prog.info? 40).map (fun i => (i.zero, i.size, i.bytes)) = some (some (.agg #[.slice none 0 0, .int .i64 0, .int .i64 0, .int .i64 0, .int .i64 0]), 5, 56) := by kernel_rfl
theorem run_append_op (w : World) (base : Nat) (v : Value) (l : List Opn) (hown : w.ownsRow base 46 6 v l.length (opsCells l)) (o : Opn) (hn : l.length ≤ 2000000) (hbase : base ≤ w.heap.size) :
    ∃ v' w', (Builtin.append_ #[36, 36] 36 #[v, .slice (some ⟨w.heap.size, 0, none⟩) 1 1]).run Try.prog (w.alloc (.cells #[.int .i64 o.kind, .int .i64 o.dst, .int .i64 o.a, .int .i64 o.b, .int .i64 o.c, .int .i64 o.imm] 46)) = .ok v' w' ∧
      w'.ownsRow base 46 6 v' (l ++ [o]).length (opsCells (l ++ [o])) ∧ (w.alloc (.cells #[.int .i64 o.kind, .int .i64 o.dst, .int .i64 o.a, .int .i64 o.b, .int .i64 o.c, .int .i64 o.imm] 46)).grownBy w' v.ownBlock ∧ (v'.ownBlock = v.ownBlock ∨ v'.ownBlock = some (w.heap.size + 1)) := by
  obtain ⟨i0, hi, hz0, hz1, hz2⟩ := info_parts op_info
  obtain ⟨v', w', h1, h2, h3, h4⟩ := run_append_own_at (P := Try.prog) (w.alloc (.cells (opCells o).toArray 46)) base 36 36 46 i0 _ 6 48 Try.underlying36 hi hz0 hz1 hz2 rfl (by omega) v l.length (opsCells l) (hown.alloc _) ⟨w.heap.size, 0, none⟩ 1 1 (opCells o) rfl (World.news_of_block (heap_alloc_new w _)) (by intro u hu; simp [opCells] at hu; rcases hu with rfl | rfl | rfl | rfl | rfl | rfl <;> rfl) (by unfold maxLen; omega) (by omega) (by simp; omega)
  have e : (w.alloc (.cells (opCells o).toArray 46)).heap.size = w.heap.size + 1 := by simp
  rw [e] at h4
  refine ⟨v', w', h1, ?_, h3, h4.2⟩
  rw [opsCells_snoc, List.length_append]
  exact h2
theorem ownN_len {w : World} {base t m : Nat} {v : Value} {n : Nat} {ys : List Value} (h : w.ownsRow base t m v n ys) : ∃ A cap, v = .slice A n cap := by
  rcases h.2 with ⟨rfl, rfl⟩ | ⟨g, cap, cur, rfl, _⟩
  · exact ⟨none, 0, rfl⟩
  · exact ⟨_, cap, rfl⟩
def blkCells (ov : Value) (t : Trm) : List Value := ov :: trmCells t
def blkRow (ovs : List Value) (bs : List Blk) : List Value := (List.zipWith (fun ov b => blkCells ov b.term) ovs bs).flatten
theorem blkRow_snoc (ovs : List Value) (bs : List Blk) (h : ovs.length = bs.length) (ov : Value) (b : Blk) : blkRow (ovs ++ [ov]) (bs ++ [b]) = blkRow ovs bs ++ blkCells ov b.term := by
  unfold blkRow
  rw [List.zipWith_append h, List.flatten_append]
  simp
theorem run_append_blk (w : World) (base : Nat) (v : Value) (n : Nat) (ys : List Value) (hown : w.ownsRow base 40 5 v n ys) (A : Option Addr) (l c : Nat) (t : Trm) (hn : n ≤ 2000000) (hbase : base ≤ w.heap.size) :
    ∃ v' w', (Builtin.append_ #[23, 23] 23 #[v, .slice (some ⟨w.heap.size, 0, none⟩) 1 1]).run Try.prog (w.alloc (.cells #[.slice A l c, .int .i64 t.kind, .int .i64 t.a, .int .i64 t.yes, .int .i64 t.no] 40)) = .ok v' w' ∧
      w'.ownsRow base 40 5 v' (n + 1) (ys ++ blkCells (.slice A l c) t) ∧ (w.alloc (.cells #[.slice A l c, .int .i64 t.kind, .int .i64 t.a, .int .i64 t.yes, .int .i64 t.no] 40)).grownBy w' v.ownBlock ∧ (v'.ownBlock = v.ownBlock ∨ v'.ownBlock = some (w.heap.size + 1)) := by
  obtain ⟨i0, hi, hz0, hz1, hz2⟩ := info_parts blk_info
  obtain ⟨v', w', h1, h2, h3, h4⟩ := run_append_own_at (P := Try.prog) (w.alloc (.cells (blkCells (.slice A l c) t).toArray 40)) base 23 23 40 i0 _ 5 56 Try.underlying23 hi hz0 hz1 hz2 rfl (by omega) v n ys (hown.alloc _) ⟨w.heap.size, 0, none⟩ 1 1 (blkCells (.slice A l c) t) rfl (World.news_of_block (heap_alloc_new w _)) (by intro u hu; simp [blkCells, trmCells] at hu; rcases hu with rfl | rfl | rfl | rfl | rfl <;> rfl) (by unfold maxLen; omega) (by omega) (by simp; omega)
  have e : (w.alloc (.cells (blkCells (.slice A l c) t).toArray 40)).heap.size = w.heap.size + 1 := by simp
  rw [e] at h4
  exact ⟨v', w', h1, h2, h3, h4.2⟩
/-- What lies where in rows of one width. -/
theorem flatten_at (m : Nat) : ∀ (cs : List (List Value)), (∀ es ∈ cs, es.length = m) → ∀ (k : Nat) (es : List Value), cs[k]? = some es → ∀ (j : Nat) (u : Value), es[j]? = some u → cs.flatten[k * m + j]? = some u
  | [], _, k, es, h, j, u, hu => by simp at h
  | c :: cs, hl, 0, es, h, j, u, hu => by
    simp at h
    subst h
    rw [List.flatten_cons, Nat.zero_mul, Nat.zero_add, List.getElem?_append_left (List.getElem?_eq_some_iff.1 hu).1, hu]
  | c :: cs, hl, k + 1, es, h, j, u, hu => by
    have hc := hl c (by simp)
    rw [List.flatten_cons, List.getElem?_append_right (by rw [hc, Nat.succ_mul]; omega), hc, Nat.succ_mul, show k * m + m + j - m = k * m + j by omega]
    exact flatten_at m cs (fun e he => hl e (by simp [he])) k es (by simpa using h) j u hu
theorem slRep_own {T : Type} {E : Enc T} {w : World} {base B : Nat} {t : TypeId} {v : Value} (l : List T) (cs : List (List Value)) (hc : ∀ (i : Nat) (x : T), l[i]? = some x → ∃ es, cs[i]? = some es ∧ E.rep w B es x) (hlen : ∀ es ∈ cs, es.length = E.size)
    (hB : w.heap.size ≤ B) (h : w.ownsRow base t E.size v l.length cs.flatten) : SlRep E w B v l := by
  rcases h.2 with ⟨rfl, h0⟩ | ⟨g, cap, cur, rfl, hb, hg, hnc, _⟩
  · obtain rfl : l = [] := List.length_eq_zero_iff.1 h0
    exact SlRep.nil_ _ _
  · refine ⟨some ⟨g, 0, none⟩, cap, rfl, hnc, fun k x hk => ?_⟩
    obtain ⟨es, he, hr⟩ := hc k x hk
    have hlt := lt_of_blk hg
    refine ⟨g, 0, es, rfl, by omega, hr, fun j u hu => ?_⟩
    have hj : j < E.size := by rw [← E.len hr]; exact (List.getElem?_eq_some_iff.1 hu).1
    have hkl : k < l.length := (List.getElem?_eq_some_iff.1 hk).1
    have hlt2 : k * E.size + j < l.length * E.size := by
      have : (k + 1) * E.size ≤ l.length * E.size := Nat.mul_le_mul_right _ hkl
      rw [Nat.succ_mul] at this; omega
    rw [Nat.zero_add, h.cellAt _ hlt2]
    exact flatten_at _ cs hlen k es he j u hu
/-- A list of operations that the call made. -/
theorem slRep_ops {w : World} {base B : Nat} {v : Value} {l : List Opn} (hB : w.heap.size ≤ B) (h : w.ownsRow base 46 6 v l.length (opsCells l)) : SlRep opEnc w B v l := by
  refine slRep_own (E := opEnc) (base := base) (t := 46) l (l.map opCells) (fun i x hx => ⟨opCells x, by rw [List.getElem?_map, hx]; rfl, rfl⟩) ?_ hB ?_
  · intro es he
    obtain ⟨o, _, rfl⟩ := List.mem_map.1 he
    rfl
  · rw [← List.flatMap_def]; exact h
/-- A list of blocks that the call made. -/
structure BlksAt (w : World) (B : Nat) (v : Value) (bs : List Blk) (ovs : List Value) : Prop where
  len : ovs.length = bs.length
  row : w.ownsRow B 40 5 v bs.length (blkRow ovs bs)
  ops : ∀ (i : Nat) (ov : Value) (b : Blk), ovs[i]? = some ov → bs[i]? = some b → w.ownsRow B 46 6 ov b.ops.length (opsCells b.ops) ∧ ∀ r, ov.ownBlock = some r → v.ownBlock ≠ some r
theorem BlksAt.nil_ (w : World) (B : Nat) : BlksAt w B (.slice none 0 0) [] [] := ⟨rfl, World.ownsRow_nil _ _ _ _, fun i ov b h => by simp at h⟩
theorem own_below {w w' : World} {B t m : Nat} {v : Value} {n : Nat} {ys : List Value} (h : w.ownsRow B t m v n ys) (hb : Below w.heap.size w w') : w'.ownsRow B t m v n ys :=
  h.kept (row := none) ⟨hb.os, hb.tape, hb.output, hb.size, fun k hk _ => hb.block k hk⟩ (by cases v.ownBlock <;> simp)
theorem BlksAt.below {w w' : World} {B : Nat} {v : Value} {bs : List Blk} {ovs : List Value} (h : BlksAt w B v bs ovs) (hb : Below w.heap.size w w') : BlksAt w' B v bs ovs :=
  ⟨h.len, own_below h.row hb, fun i ov b h1 h2 => ⟨own_below (h.ops i ov b h1 h2).1 hb, (h.ops i ov b h1 h2).2⟩⟩
theorem BlksAt.push {w : World} {B B' : Nat} {v : Value} {bs : List Blk} {ovs : List Value} (h : BlksAt w B v bs ovs) {A : Option Addr} {c : Nat} {ops : List Opn} (hov : w.ownsRow B' 46 6 (.slice A ops.length c) ops.length (opsCells ops))
    (hBB : B ≤ B') (hd : ∀ r, (Value.slice A ops.length c).ownBlock = some r → v.ownBlock ≠ some r) (hB : B ≤ w.heap.size) (hn : bs.length ≤ 2000000) (t : Trm) :
    ∃ v' w', (Builtin.append_ #[23, 23] 23 #[v, .slice (some ⟨w.heap.size, 0, none⟩) 1 1]).run Try.prog (w.alloc (.cells #[.slice A ops.length c, .int .i64 t.kind, .int .i64 t.a, .int .i64 t.yes, .int .i64 t.no] 40)) = .ok v' w' ∧
      BlksAt w' B v' (bs ++ [⟨ops, t⟩]) (ovs ++ [.slice A ops.length c]) ∧ (∀ {C W}, Below C W w → C ≤ B → Below C W w') ∧ (∃ A' c', v' = .slice A' (bs.length + 1) c') ∧ (v'.ownBlock = v.ownBlock ∨ v'.ownBlock = some (w.heap.size + 1)) ∧ (∀ {b x}, w.heap[b]? = some x → v.ownBlock ≠ some b → w'.heap[b]? = some x) := by
  obtain ⟨v', w', a1, a2, a3, a4⟩ := run_append_blk w B v bs.length (blkRow ovs bs) h.row A ops.length c t hn hB
  have hlt := h.row.lt
  have hkeep : ∀ {B'' ov n ys}, w.ownsRow B'' 46 6 ov n ys → (∀ r, ov.ownBlock = some r → v.ownBlock ≠ some r) → w'.ownsRow B'' 46 6 ov n ys := by
    intro B'' ov n ys ho hne
    refine (ho.alloc _).kept a3 ?_
    cases hq : ov.ownBlock with
    | none => exact Or.inl rfl
    | some r => exact Or.inr (fun e => hne r hq e.symm)
  have hsep : ∀ {B'' ov n ys}, w.ownsRow B'' 46 6 ov n ys → (∀ r, ov.ownBlock = some r → v.ownBlock ≠ some r) → ∀ r, ov.ownBlock = some r → v'.ownBlock ≠ some r := by
    intro B'' ov n ys ho hne r hr e
    rcases a4 with a4 | a4
    · rw [a4] at e; exact hne r hr e
    · rw [a4] at e
      injection e with e
      have := (ho.lt r hr).2
      omega
  refine ⟨v', w', a1, ⟨by simp [h.len], ?_, ?_⟩, ?_, ?_⟩
  · rw [blkRow_snoc _ _ h.len, List.length_append]
    exact a2
  · intro i ov b h1 h2
    by_cases hi : i < ovs.length
    · rw [List.getElem?_append_left hi] at h1
      rw [List.getElem?_append_left (by rw [← h.len]; exact hi)] at h2
      obtain ⟨g1, g2⟩ := h.ops i ov b h1 h2
      exact ⟨hkeep g1 g2, hsep g1 g2⟩
    · have hi2 : i < (ovs ++ [Value.slice A ops.length c]).length := (List.getElem?_eq_some_iff.1 h1).1
      rw [List.length_append, List.length_singleton] at hi2
      obtain rfl : i = ovs.length := by omega
      rw [List.getElem?_append_right (Nat.le_refl _), Nat.sub_self] at h1
      rw [h.len, List.getElem?_append_right (Nat.le_refl _), Nat.sub_self] at h2
      simp at h1 h2
      subst h1 h2
      exact ⟨own_more (hkeep hov hd) hBB, hsep hov hd⟩
  · intro C W hb hC
    have hs := hb.size
    exact (hb.alloc (by omega) _).grown a3 (by simp; omega) (fun r hr => by have := (hlt r hr).1; omega)
  · obtain ⟨A', c', e⟩ := ownN_len a2
    refine ⟨⟨A', c', e⟩, a4, fun {b x} hb hne => ?_⟩
    have hlb := lt_of_blk hb
    exact (a3.block b (by simp; omega) (fun e => hne e.symm)).trans (((bnew w _).block b hlb).trans hb)
/-- A store elsewhere. -/
theorem BlksAt.setOther {w : World} {B : Nat} {v : Value} {bs : List Blk} {ovs : List Value} (h : BlksAt w B v bs ovs) (q : Addr) (u : Value) (hv : v.ownBlock ≠ some q.block) (ho : ∀ ov ∈ ovs, ov.ownBlock ≠ some q.block) : BlksAt (w.setCell q u) B v bs ovs := by
  have hg := grown_setCell w q u
  refine ⟨h.len, h.row.kept hg (by cases hq : v.ownBlock with
    | none => exact Or.inl rfl
    | some r => exact Or.inr (fun e => hv (hq.trans e))), fun i ov b h1 h2 => ⟨(h.ops i ov b h1 h2).1.kept hg ?_, (h.ops i ov b h1 h2).2⟩⟩
  have hm : ov ∈ ovs := by
    obtain ⟨hi, he⟩ := List.getElem?_eq_some_iff.1 h1
    rw [← he]; exact List.getElem_mem hi
  cases hq : ov.ownBlock with
  | none => exact Or.inl rfl
  | some r => exact Or.inr (fun e => ho ov hm (hq.trans e))
theorem BlksAt.rep {w : World} {B : Nat} {v : Value} {bs : List Blk} {ovs : List Value} (h : BlksAt w B v bs ovs) : SlRep blkEnc w w.heap.size v bs := by
  refine slRep_own (E := blkEnc) (base := B) (t := 40) bs (List.zipWith (fun (ov : Value) (b : Blk) => blkCells ov b.term) ovs bs) (fun i x hx => ?_) ?_ (Nat.le_refl _) h.row
  · have hi : i < bs.length := (List.getElem?_eq_some_iff.1 hx).1
    have ho : ovs[i]? = some (ovs[i]'(by rw [h.len]; exact hi)) := List.getElem?_eq_getElem _
    refine ⟨blkCells (ovs[i]'(by rw [h.len]; exact hi)) x.term, ?_, _, rfl, slRep_ops (Nat.le_refl _) (h.ops i _ x ho hx).1⟩
    rw [List.getElem?_zipWith, ho, hx]
  · intro es he
    obtain ⟨i, hi, rfl⟩ := List.getElem_of_mem he
    rw [List.getElem_zipWith]; rfl
end Go.Proofs.Ythkobddggoojlaa
namespace Go.Proofs.Ythkobddggoojlaa
open Go.RowKit
def ints (l : List Int) : Array Value := (l.map (Value.int .i64)).toArray
def iSl (g n : Nat) : Value := .slice (some ⟨g, 0, none⟩) n n
def rowVals (gs : List Nat) (lens : List Nat) : List Value := (List.range gs.length).map fun i => iSl (gs.getD i 0) (lens.getD i 0)
def rnCells (p : Ir) (av bv : Value) (gt tl : Nat) (aav : Value) : Array Value := #[.int .i64 p.temps, av, bv, .int .i64 p.inp, .int .i64 p.out, iSl gt tl, aav]
/-- A run lies here: its own block M, its temps' block, each array's block, and the row of all arrays. -/
structure RunAt (w : World) (B M gt : Nat) (gs : List Nat) (aav : Value) (p : Ir) (av bv : Value) (s : St) : Prop where
  blk : w.heap[M]? = some (.cells (rnCells p av bv gt s.ts.length aav) 87 (0, 0))
  tmp : w.heap[gt]? = some (.cells (ints s.ts) 3 (0, 0))
  row : w.ownsRow B 72 1 aav gs.length (rowVals gs (s.mem.map List.length))
  mem : ∀ i, i < gs.length → w.heap[gs.getD i 0]? = some (.cells (ints (s.mem.getD i [])) 3 (0, 0))
  len : gs.length = s.mem.length
  bM : B ≤ M
  bt : B ≤ gt
  bg : ∀ g ∈ gs, B ≤ g
  dM : gt ≠ M
  dg : ∀ g ∈ gs, g ≠ M ∧ g ≠ gt
  nd : gs.Nodup
  dr : ∀ r, aav.ownBlock = some r → r ≠ M ∧ r ≠ gt ∧ r ∉ gs
theorem ints_get (l : List Int) (i : Nat) (h : i < l.length) : (ints l)[i]? = some (.int .i64 (l.getD i 0)) := by
  unfold ints
  simp [List.getElem?_eq_getElem h, List.getD_eq_getElem?_getD]
theorem ints_set (l : List Int) (i : Nat) (v : Int) : (ints l).setIfInBounds i (.int .i64 v) = ints (l.set i v) := by
  unfold ints
  simp [List.map_set]
section
variable {w w' : World} {B M gt : Nat} {gs : List Nat} {aav : Value} {p : Ir} {av bv : Value} {s : St}
/-- Whatever keeps the run's blocks keeps the run. -/
theorem RunAt.keep (h : RunAt w B M gt gs aav p av bv s) (hg : w.grownBy w' none) : RunAt w' B M gt gs aav p av bv s := by
  obtain ⟨h1, h2, h3, h4, h5, h6, h7, h8, h9, h10, h11, h12⟩ := h
  exact ⟨(hg.block _ (lt_of_blk h1) (by simp)).trans h1, (hg.block _ (lt_of_blk h2) (by simp)).trans h2, h3.kept hg (by cases aav.ownBlock <;> simp), fun i hi => (hg.block _ (lt_of_blk (h4 i hi)) (by simp)).trans (h4 i hi), h5, h6, h7, h8, h9, h10, h11, h12⟩
theorem grown_below (h : Below w.heap.size w w') : w.grownBy w' none := ⟨h.os, h.tape, h.output, h.size, fun k hk _ => h.block k hk⟩
theorem RunAt.below (h : RunAt w B M gt gs aav p av bv s) (hb : Below w.heap.size w w') : RunAt w' B M gt gs aav p av bv s := h.keep (grown_below hb)
theorem RunAt.drew_ (h : RunAt w B M gt gs aav p av bv s) : RunAt w.drew B M gt gs aav p av bv s := ⟨h.1, h.2, h.3, h.4, h.5, h.6, h.7, h.8, h.9, h.10, h.11, h.12⟩
theorem RunAt.temp (h : RunAt w B M gt gs aav p av bv s) (i : Nat) (hi : i < s.ts.length) : w.cell? ⟨gt, i, none⟩ = some (.int .i64 (s.ts.getD i 0)) ∧ w.frozen? ⟨gt, i, none⟩ = false :=
  ⟨(cell_of_blk h.tmp i).1.trans (ints_get _ _ hi), (cell_of_blk h.tmp i).2⟩
theorem RunAt.elem (h : RunAt w B M gt gs aav p av bv s) (j : Nat) (hj : j < gs.length) (i : Nat) (hi : i < (s.mem.getD j []).length) : w.cell? ⟨gs.getD j 0, i, none⟩ = some (.int .i64 ((s.mem.getD j []).getD i 0)) ∧ w.frozen? ⟨gs.getD j 0, i, none⟩ = false :=
  ⟨(cell_of_blk (h.mem j hj) i).1.trans (ints_get _ _ hi), (cell_of_blk (h.mem j hj) i).2⟩
theorem rowVals_get (gs lens : List Nat) (i : Nat) (h : i < gs.length) : (rowVals gs lens)[i]? = some (iSl (gs.getD i 0) (lens.getD i 0)) := by
  unfold rowVals
  rw [List.getElem?_map, List.getElem?_range h]; rfl
/-- The slice of an array, in the row of all. -/
theorem RunAt.slot (h : RunAt w B M gt gs aav p av bv s) (j : Nat) (hj : j < gs.length) : ∃ r cap, aav = .slice (some ⟨r, 0, none⟩) gs.length cap ∧ w.cell? ⟨r, j, none⟩ = some (iSl (gs.getD j 0) (s.mem.getD j []).length) := by
  obtain ⟨n, hn⟩ : ∃ n, gs.length = n + 1 := ⟨gs.length - 1, by omega⟩
  have hr := h.row
  rw [hn] at hr
  obtain ⟨r, cap, rfl⟩ := own_form hr
  refine ⟨r, cap, by rw [hn], ?_⟩
  have := hr.cellAt j (by omega)
  rw [this, rowVals_get _ _ _ hj]
  congr 2
  have h5 := h.len
  rw [List.getD_eq_getElem?_getD, List.getElem?_map, getD_some s.mem j [] (by omega)]; rfl
theorem RunAt.setT (h : RunAt w B M gt gs aav p av bv s) (i : Nat) (v : Int) : RunAt (w.setCell ⟨gt, i, none⟩ (.int .i64 v)) B M gt gs aav p av bv ⟨s.ts.set i v, s.mem⟩ := by
  obtain ⟨h1, h2, h3, h4, h5, h6, h7, h8, h9, h10, h11, h12⟩ := h
  have hg := grown_setCell w ⟨gt, i, none⟩ (.int .i64 v)
  refine ⟨?_, ?_, h3.kept hg ?_, fun j hj => ?_, h5, h6, h7, h8, h9, h10, h11, h12⟩
  · rw [(hg.block _ (lt_of_blk h1) (fun e => by injection e with e; exact h9 e.symm)), h1]
    simp
  · rw [blk_set h2 i (.int .i64 v), ints_set]
  · cases hv : aav.ownBlock with
    | none => exact .inl rfl
    | some r => exact .inr (fun e => by injection e with e; exact (h12 r hv).2.1 e)
  · exact (hg.block _ (lt_of_blk (h4 j hj)) (fun e => by injection e with e; exact (h10 _ (getD_memI gs j 0 hj)).2 e)).trans (h4 j hj)
theorem nodup_getD {l : List Nat} (h : l.Nodup) (i j : Nat) (hi : i < l.length) (hj : j < l.length) (e : l.getD i 0 = l.getD j 0) : i = j := by
  rw [List.getD_eq_getElem?_getD, List.getElem?_eq_getElem hi, List.getD_eq_getElem?_getD, List.getElem?_eq_getElem hj] at e
  exact (List.getElem_inj h).1 e
theorem map_len_set (m : List (List Int)) (j i : Nat) (v : Int) : (m.set j ((m.getD j []).set i v)).map List.length = m.map List.length := by
  apply List.ext_getElem?
  intro q
  rw [List.getElem?_map, List.getElem?_map, List.getElem?_set]
  split
  · rename_i e
    subst e
    split
    · rename_i h1
      rw [getD_some m j [] h1]; simp
    · rename_i h1
      rw [List.getElem?_eq_none (by omega)]
  · rfl
theorem RunAt.setM (h : RunAt w B M gt gs aav p av bv s) (j : Nat) (hj : j < gs.length) (i : Nat) (v : Int) : RunAt (w.setCell ⟨gs.getD j 0, i, none⟩ (.int .i64 v)) B M gt gs aav p av bv ⟨s.ts, s.mem.set j ((s.mem.getD j []).set i v)⟩ := by
  obtain ⟨h1, h2, h3, h4, h5, h6, h7, h8, h9, h10, h11, h12⟩ := h
  have hg := grown_setCell w ⟨gs.getD j 0, i, none⟩ (.int .i64 v)
  have hjm := getD_memI gs j 0 hj
  refine ⟨?_, ?_, ?_, fun q hq => ?_, by simpa using h5, h6, h7, h8, h9, h10, h11, h12⟩
  · exact (hg.block _ (lt_of_blk h1) (fun e => by injection e with e; exact (h10 _ hjm).1 e.symm)).trans h1
  · exact (hg.block _ (lt_of_blk h2) (fun e => by injection e with e; exact (h10 _ hjm).2 e.symm)).trans h2
  · rw [show (St.mk s.ts (s.mem.set j ((s.mem.getD j []).set i v))).mem = s.mem.set j ((s.mem.getD j []).set i v) from rfl, map_len_set]
    refine h3.kept hg ?_
    cases hv : aav.ownBlock with
    | none => exact .inl rfl
    | some r => exact .inr (fun e => by injection e with e; exact (h12 r hv).2.2 (by rw [e]; exact hjm))
  · simp only
    by_cases e : j = q
    · subst e
      rw [blk_set (h4 j hj) i (.int .i64 v), ints_set, getD_set_self _ _ _ _ (by omega)]
    · rw [getD_set_ne _ _ _ _ _ e]
      exact (hg.block _ (lt_of_blk (h4 q hq)) (fun e2 => by injection e2 with e2; exact e (nodup_getD h11 _ _ hj hq e2.symm))).trans (h4 q hq)
end
end Go.Proofs.Ythkobddggoojlaa
