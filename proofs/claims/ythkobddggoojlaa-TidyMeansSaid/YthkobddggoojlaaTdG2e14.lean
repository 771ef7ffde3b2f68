/- Parts of a proof, joined. No condition but those that each theorem names. -/
import Derived.WalkKit
import Derived.OpenShut
import Derived.Below
import Derived.Lib.Hide
import Derived.Laws.OwnMore
import Derived.Deep.QuietTactic
import Derived.Deep.AppendLies
import Derived.ProofKit
import Derived.SizedLaws
import Derived.Test.YthkobddggoojlaaProg
import Derived.Handy
import Derived.Deep.RegionHeld3
import Derived.BigQuiet
import Derived.Maps.AppendAt
import Derived.StillTailTactics
import Derived.Laws.CopyOwn
import Derived.Lib.BufferWrite
import Derived.OrdersHeld
import Derived.RegionTactic
import Derived.Test.YthkobddggoojlaaTdG0e0
import Derived.Test.YthkobddggoojlaaTdIr
import Derived.Test.YthkobddggoojlaaTdG2e5
namespace Go.Proofs.Ythkobddggoojlaa
open Go.RowKit
set_option linter.unusedVariables false
theorem op_cells_at {w : World} {g : Nat} {k d a b c i : Int} (h : w.heap[g]? = some (.cells #[.int .i64 k, .int .i64 d, .int .i64 a, .int .i64 b, .int .i64 c, .int .i64 i] 46 (0, 0))) :
    w.cell? ⟨g, 0, none⟩ = some (.int .i64 k) ∧ w.cell? ⟨g, 1, none⟩ = some (.int .i64 d) ∧ w.cell? ⟨g, 2, none⟩ = some (.int .i64 a) ∧ w.cell? ⟨g, 3, none⟩ = some (.int .i64 b) ∧ w.cell? ⟨g, 4, none⟩ = some (.int .i64 c) ∧ w.cell? ⟨g, 5, none⟩ = some (.int .i64 i) ∧
    w.frozen? ⟨g, 1, none⟩ = false ∧ w.frozen? ⟨g, 2, none⟩ = false ∧ w.frozen? ⟨g, 3, none⟩ = false ∧ w.frozen? ⟨g, 4, none⟩ = false :=
  ⟨(cell_of_blk h 0).1, (cell_of_blk h 1).1, (cell_of_blk h 2).1, (cell_of_blk h 3).1, (cell_of_blk h 4).1, (cell_of_blk h 5).1, (cell_of_blk h 1).2, (cell_of_blk h 2).2, (cell_of_blk h 3).2, (cell_of_blk h 4).2⟩
theorem ir_cells_at {w : World} {g : Nat} {t : Int} {a b : Value} {i o : Int} (h : w.heap[g]? = some (.cells #[.int .i64 t, a, b, .int .i64 i, .int .i64 o] 25 (0, 0))) :
    w.cell? ⟨g, 0, none⟩ = some (.int .i64 t) ∧ w.cell? ⟨g, 1, none⟩ = some a ∧ w.cell? ⟨g, 2, none⟩ = some b ∧ w.cell? ⟨g, 3, none⟩ = some (.int .i64 i) ∧ w.cell? ⟨g, 4, none⟩ = some (.int .i64 o) ∧ w.frozen? ⟨g, 2, none⟩ = false :=
  ⟨(cell_of_blk h 0).1, (cell_of_blk h 1).1, (cell_of_blk h 2).1, (cell_of_blk h 3).1, (cell_of_blk h 4).1, (cell_of_blk h 2).2⟩
theorem BlksAt.more {w : World} {B B' : Nat} {v : Value} {bs : List Blk} {ovs : List Value} (h : BlksAt w B v bs ovs) (hB : B' ≤ B) : BlksAt w B' v bs ovs :=
  ⟨h.len, own_more h.row hB, fun i ov b h1 h2 => ⟨own_more (h.ops i ov b h1 h2).1 hB, (h.ops i ov b h1 h2).2⟩⟩
theorem blk_cells_at {w : World} {g : Nat} {v : Value} {k a y n : Int} (h : w.heap[g]? = some (.cells #[v, .int .i64 k, .int .i64 a, .int .i64 y, .int .i64 n] 40 (0, 0))) :
    w.cell? ⟨g, 0, none⟩ = some v ∧ w.cell? ⟨g, 1, none⟩ = some (.int .i64 k) ∧ w.cell? ⟨g, 2, none⟩ = some (.int .i64 a) ∧ w.cell? ⟨g, 3, none⟩ = some (.int .i64 y) ∧ w.cell? ⟨g, 4, none⟩ = some (.int .i64 n) ∧ w.frozen? ⟨g, 0, none⟩ = false ∧ w.frozen? ⟨g, 2, none⟩ = false :=
  ⟨(cell_of_blk h 0).1, (cell_of_blk h 1).1, (cell_of_blk h 2).1, (cell_of_blk h 3).1, (cell_of_blk h 4).1, (cell_of_blk h 0).2, (cell_of_blk h 2).2⟩
end Go.Proofs.Ythkobddggoojlaa
namespace Go.Proofs.Ythkobddggoojlaa
open Go.RowKit
set_option linter.unusedVariables false
theorem flat_idx {T : Type} (n : Nat) (f : T → List Value) (hf : ∀ t, (f t).length = n) (hn : 0 < n) : ∀ (l : List T) (j : Nat) (u : Value), (l.flatMap f)[j]? = some u → ∃ t, l[j / n]? = some t ∧ (f t)[j % n]? = some u
  | [], j, u, h => by simp at h
  | t :: l, j, u, h => by
    rw [List.flatMap_cons] at h
    by_cases hj : j < n
    · rw [List.getElem?_append_left (by rw [hf]; exact hj)] at h
      exact ⟨t, by rw [Nat.div_eq_of_lt hj]; rfl, by rw [Nat.mod_eq_of_lt hj]; exact h⟩
    · rw [List.getElem?_append_right (by rw [hf]; omega), hf] at h
      obtain ⟨t', h1, h2⟩ := flat_idx n f hf hn l (j - n) u h
      have hd : j / n = (j - n) / n + 1 := by
        rw [← Nat.add_div_right _ hn]; congr 1; omega
      have hm : j % n = (j - n) % n := by
        rw [← Nat.add_mod_right (j - n) n]; congr 1; omega
      exact ⟨t', by rw [hd]; exact h1, by rw [hm]; exact h2⟩
theorem addr_add (b off j : Nat) : (⟨b, off, none⟩ : Addr).add j = ⟨b, off + j, none⟩ := by
  unfold Addr.add; split
  · rename_i h; simp
  · rfl
theorem len_flat {T : Type} (n : Nat) (f : T → List Value) (hf : ∀ t, (f t).length = n) : ∀ l : List T, (l.flatMap f).length = l.length * n
  | [] => by simp
  | t :: l => by rw [List.flatMap_cons, List.length_append, hf, len_flat n f hf l, List.length_cons, Nat.succ_mul, Nat.add_comm]
/-- All of a slice behind a list of the call's own. -/
theorem run_append_src {P : Program} {T : Type} (n : Nat) (f : T → List Value) (hf : ∀ t, (f t).length = n) (hn : 0 < n) (h1 : ∀ t, ∀ u ∈ f t, u.oneCell' = true) (st et : TypeId) (i0 : TypeInfo) (z : Value) (bytes : Nat)
    (hund : P.underlying st = some (.slice et)) (hi : P.info? et = some i0) (hz : i0.zero = some z) (hs : i0.size = n) (hb : i0.bytes = bytes) (hzs : z.cells.size = n) (w : World) (base : Nat) (v : Value) (k : Nat) (ys : List Value) (hown : w.ownsRow base et n v k ys)
    (A : Option Addr) (c B : Nat) (l : List T) (h : SlRep (flatEnc n f hf) w B (.slice A l.length c) l) (hmax : k + l.length ≤ maxLen) (hby : (k + l.length) * bytes ≤ 140737488355328) (hbase : base ≤ w.heap.size) :
    ∃ v' w', (Builtin.append_ #[st, st] st #[v, .slice A l.length c]).run P w = .ok v' w' ∧ w'.ownsRow base et n v' (k + l.length) (ys ++ l.flatMap f) ∧ w.grownBy w' v.ownBlock ∧ (v'.ownBlock = v.ownBlock ∨ v'.ownBlock = some w.heap.size) := by
  obtain ⟨A', c', e, hc, hel⟩ := h
  injection e with e
  subst e
  cases A with
  | none =>
    have hl : l = [] := by
      cases l with
      | nil => rfl
      | cons t l => obtain ⟨b, off, es, e1, _⟩ := hel 0 t rfl; cases e1
    subst hl
    refine ⟨v, w, ?_, by simpa using hown, ⟨rfl, rfl, rfl, Nat.le_refl _, fun _ _ _ => rfl⟩, Or.inl rfl⟩
    rcases hown.2 with ⟨rfl, rfl⟩ | ⟨g, cap, cur, rfl, _, _, hnc, _⟩
    · simp [Builtin.append_, run_underlying hund, sizeOf, typeInfo, hi, Builtin.lenOf, Builtin.firstCells]
    · simp [Builtin.append_, run_underlying hund, sizeOf, typeInfo, hi, Builtin.lenOf, Builtin.firstCells, hnc, storeCells]
  | some a =>
    have hcell : ∀ j u, (l.flatMap f)[j]? = some u → w.cell? (a.add j) = some u := by
      intro j u hu
      obtain ⟨t, ht, hr⟩ := flat_idx n f hf hn l j u hu
      obtain ⟨b, off, es, e1, _, he, hx⟩ := hel _ t ht
      have he : es = f t := he
      subst he
      injection e1 with e1
      subst e1
      have := hx _ _ hr
      rw [addr_add]
      rw [show off + j = off + j / n * n + j % n by have := Nat.div_add_mod j n; rw [Nat.mul_comm] at this; omega]
      exact this
    obtain ⟨v', w', r1, r2, r3, _, r5⟩ := run_append_own_at (P := P) (w := w) base st st et i0 z n bytes hund hi hz hs hb hzs hn v k ys hown a l.length c (l.flatMap f) (len_flat n f hf l) hcell (by
      intro u hu
      obtain ⟨t, _, ht⟩ := List.mem_flatMap.1 hu
      exact h1 t u ht) hmax hby hbase
    exact ⟨v', w', r1, r2, r3, r5⟩
theorem arr_info : (Try.prog.info? 59).map (fun i => (i.zero, i.size, i.bytes)) = some (some (.agg #[.int .i64 0, .int .i64 0, .int .i64 0, .int .i64 0]), 4, 32) := by kernel_rfl
/-- A copy of a list of arrays. -/
theorem run_copy_arr (w : World) (A : Option Addr) (c B : Nat) (l : List Arr) (h : SlRep arrEnc w B (.slice A l.length c) l) (hn : l.length ≤ 1048576) :
    ∃ AA cc w', (Builtin.append_ #[22, 22] 22 #[.slice none 0 0, .slice A l.length c]).run Try.prog w = .ok (.slice AA l.length cc) w' ∧ w'.ownsRow w.heap.size 59 4 (.slice AA l.length cc) l.length (l.flatMap arrCells) ∧ Below w.heap.size w w' := by
  obtain ⟨i0, hi, hz0, hz1, hz2⟩ := info_parts arr_info
  obtain ⟨v', w', a1, a2, a3, a4⟩ := run_append_src (P := Try.prog) 4 arrCells (fun _ => rfl) (by omega) (by intro t u hu; simp [arrCells] at hu; rcases hu with rfl | rfl | rfl | rfl <;> rfl) 22 59 i0 _ 32 Try.underlying22 hi hz0 hz1 hz2 rfl w w.heap.size (.slice none 0 0) 0 [] (World.ownsRow_nil _ _ _ _) A c B l h (by unfold maxLen; omega) (by omega) (Nat.le_refl _)
  rw [Nat.zero_add, List.nil_append] at a2
  obtain ⟨AA, cc, rfl⟩ := ownN_len a2
  exact ⟨AA, cc, w', a1, a2, (Below.refl _ _).grown a3 (Nat.le_refl _) (fun r hr => by cases hr)⟩
/-- A list of operations behind a list of the call's own. -/
theorem run_append_ops (w : World) (base : Nat) (v : Value) (ys : List Opn) (hown : w.ownsRow base 46 6 v ys.length (opsCells ys)) (A : Option Addr) (c B : Nat) (l : List Opn) (h : SlRep opEnc w B (.slice A l.length c) l) (hn : ys.length + l.length ≤ 2000000) (hbase : base ≤ w.heap.size) :
    ∃ AA cc w', (Builtin.append_ #[36, 36] 36 #[v, .slice A l.length c]).run Try.prog w = .ok (.slice AA (ys ++ l).length cc) w' ∧ w'.ownsRow base 46 6 (.slice AA (ys ++ l).length cc) (ys ++ l).length (opsCells (ys ++ l)) ∧ w.grownBy w' v.ownBlock ∧ ((Value.slice AA (ys ++ l).length cc).ownBlock = v.ownBlock ∨ (Value.slice AA (ys ++ l).length cc).ownBlock = some w.heap.size) := by
  obtain ⟨i0, hi, hz0, hz1, hz2⟩ := info_parts op_info
  obtain ⟨v', w', a1, a2, a3, a4⟩ := run_append_src (P := Try.prog) 6 opCells (fun _ => rfl) (by omega) (by intro t u hu; simp [opCells] at hu; rcases hu with rfl | rfl | rfl | rfl | rfl | rfl <;> rfl) 36 46 i0 _ 48 Try.underlying36 hi hz0 hz1 hz2 rfl w base v ys.length (opsCells ys) hown A c B l h (by unfold maxLen; omega) (by omega) hbase
  have e : opsCells ys ++ l.flatMap opCells = opsCells (ys ++ l) := by unfold opsCells; rw [List.flatMap_append]
  rw [e, ← List.length_append] at a2
  obtain ⟨AA, cc, rfl⟩ := ownN_len a2
  exact ⟨AA, cc, w', a1, a2, a3, a4⟩
/-- A list of arrays that the call made. -/
theorem slRep_arrs {w : World} {base B : Nat} {v : Value} {l : List Arr} (hB : w.heap.size ≤ B) (h : w.ownsRow base 59 4 v l.length (l.flatMap arrCells)) : SlRep arrEnc w B v l := by
  refine slRep_own (E := arrEnc) (base := base) (t := 59) l (l.map arrCells) (fun i x hx => ⟨arrCells x, by rw [List.getElem?_map, hx]; rfl, rfl⟩) ?_ hB ?_
  · intro es he
    obtain ⟨o, _, rfl⟩ := List.mem_map.1 he
    rfl
  · rw [← List.flatMap_def]; exact h
/-- A program is handed back. -/
def PassPost (q : Ir) (er : Int) (w : World) (e : Ending) (w' : World) : Prop := ∃ A ac C bc, e = .returned (.tuple #[.agg #[.int .i64 q.temps, .slice A q.arrays.length ac, .slice C q.blocks.length bc, .int .i64 q.inp, .int .i64 q.out], .int .i64 er]) ∧ IrRep w' w'.heap.size q (.slice A q.arrays.length ac) (.slice C q.blocks.length bc) ∧ Below w.heap.size w w'
def irZero : Ir := ⟨0, [], [], 0, 0⟩
end Go.Proofs.Ythkobddggoojlaa
