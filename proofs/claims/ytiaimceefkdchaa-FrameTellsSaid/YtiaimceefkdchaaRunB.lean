/- A run's memory: where its temps and its arrays lie; what a store makes of it. -/
import Derived.Test.YtiaimceefkdchaaRunA
import Derived.Test.YtiaimceefkdchaaFrameOf
namespace Go.Proofs.Ytiaimceefkdchaa
open Go.RowKit
def ints (l : List Int) : Array Value := (l.map (Value.int .i64)).toArray
def iSl (g n : Nat) : Value := .slice (some ⟨g, 0, none⟩) n n
def rowVals (gs : List Nat) (lens : List Nat) : List Value := (List.range gs.length).map fun i => iSl (gs.getD i 0) (lens.getD i 0)
def rnCells (p : Ir) (av bv : Value) (gt tl : Nat) (aav : Value) : Array Value := #[.int .i64 p.temps, av, bv, .int .i64 p.inp, .int .i64 p.out, iSl gt tl, aav]
/-- A run lies here: its own block M, its temps' block, each array's block, and the row of all arrays. -/
structure RunAt (w : World) (B M gt : Nat) (gs : List Nat) (aav : Value) (p : Ir) (av bv : Value) (s : St) : Prop where
  blk : w.heap[M]? = some (.cells (rnCells p av bv gt s.ts.length aav) 124 (0, 0))
  tmp : w.heap[gt]? = some (.cells (ints s.ts) 3 (0, 0))
  row : w.ownsRow B 26 1 aav gs.length (rowVals gs (s.mem.map List.length))
  mem : ∀ i, i < gs.length → w.heap[gs.getD i 0]? = some (.cells (ints (s.mem.getD i [])) 3 (0, 0))
  len : gs.length = s.mem.length
  bM : B ≤ M
  bt : B ≤ gt
  bg : ∀ g ∈ gs, B ≤ g
  dM : gt ≠ M
  dg : ∀ g ∈ gs, g ≠ M ∧ g ≠ gt
  nd : gs.Nodup
  dr : ∀ r, aav.ownBlock = some r → r ≠ M ∧ r ≠ gt ∧ r ∉ gs
theorem ints_size (l : List Int) : (ints l).size = l.length := by simp [ints]
theorem ints_get (l : List Int) (i : Nat) (h : i < l.length) : (ints l)[i]? = some (.int .i64 (l.getD i 0)) := by
  unfold ints
  simp [List.getElem?_eq_getElem h, List.getD_eq_getElem?_getD]
theorem ints_set (l : List Int) (i : Nat) (v : Int) : (ints l).setIfInBounds i (.int .i64 v) = ints (l.set i v) := by
  unfold ints
  simp [List.map_set]
section
variable {w w' : World} {B M gt : Nat} {gs : List Nat} {aav : Value} {p : Ir} {av bv : Value} {s : St}
/-- Whatever keeps the run's blocks keeps the run. -/
theorem RunAt.keep (h : RunAt w B M gt gs aav p av bv s) (hg : w.grownBy w' none) : RunAt w' B M gt gs aav p av bv s := by
  obtain ⟨h1, h2, h3, h4, h5, h6, h7, h8, h9, h10, h11, h12⟩ := h
  exact ⟨(hg.block _ (lt_of_blk h1) (by simp)).trans h1, (hg.block _ (lt_of_blk h2) (by simp)).trans h2, h3.kept hg (by cases aav.ownBlock <;> simp), fun i hi => (hg.block _ (lt_of_blk (h4 i hi)) (by simp)).trans (h4 i hi), h5, h6, h7, h8, h9, h10, h11, h12⟩
theorem grown_below (h : Below w.heap.size w w') : w.grownBy w' none := ⟨h.os, h.tape, h.output, h.size, fun k hk _ => h.block k hk⟩
theorem RunAt.below (h : RunAt w B M gt gs aav p av bv s) (hb : Below w.heap.size w w') : RunAt w' B M gt gs aav p av bv s := h.keep (grown_below hb)
theorem RunAt.drew_ (h : RunAt w B M gt gs aav p av bv s) : RunAt w.drew B M gt gs aav p av bv s := ⟨h.1, h.2, h.3, h.4, h.5, h.6, h.7, h.8, h.9, h.10, h.11, h.12⟩
theorem RunAt.temp (h : RunAt w B M gt gs aav p av bv s) (i : Nat) (hi : i < s.ts.length) : w.cell? ⟨gt, i, none⟩ = some (.int .i64 (s.ts.getD i 0)) ∧ w.frozen? ⟨gt, i, none⟩ = false :=
  ⟨(cell_of_blk h.tmp i).1.trans (ints_get _ _ hi), (cell_of_blk h.tmp i).2⟩
theorem RunAt.elem (h : RunAt w B M gt gs aav p av bv s) (j : Nat) (hj : j < gs.length) (i : Nat) (hi : i < (s.mem.getD j []).length) : w.cell? ⟨gs.getD j 0, i, none⟩ = some (.int .i64 ((s.mem.getD j []).getD i 0)) ∧ w.frozen? ⟨gs.getD j 0, i, none⟩ = false :=
  ⟨(cell_of_blk (h.mem j hj) i).1.trans (ints_get _ _ hi), (cell_of_blk (h.mem j hj) i).2⟩
theorem rowVals_get (gs lens : List Nat) (i : Nat) (h : i < gs.length) : (rowVals gs lens)[i]? = some (iSl (gs.getD i 0) (lens.getD i 0)) := by
  unfold rowVals
  rw [List.getElem?_map, List.getElem?_range h]; rfl
/-- The slice of an array, in the row of all. -/
theorem RunAt.slot (h : RunAt w B M gt gs aav p av bv s) (j : Nat) (hj : j < gs.length) : ∃ r cap, aav = .slice (some ⟨r, 0, none⟩) gs.length cap ∧ w.cell? ⟨r, j, none⟩ = some (iSl (gs.getD j 0) (s.mem.getD j []).length) := by
  obtain ⟨n, hn⟩ : ∃ n, gs.length = n + 1 := ⟨gs.length - 1, by omega⟩
  have hr := h.row
  rw [hn] at hr
  obtain ⟨r, cap, rfl⟩ := own_form hr
  refine ⟨r, cap, by rw [hn], ?_⟩
  have := hr.cellAt j (by omega)
  rw [this, rowVals_get _ _ _ hj]
  congr 2
  have h5 := h.len
  rw [List.getD_eq_getElem?_getD, List.getElem?_map, getD_some s.mem j [] (by omega)]; rfl
theorem RunAt.setT (h : RunAt w B M gt gs aav p av bv s) (i : Nat) (v : Int) : RunAt (w.setCell ⟨gt, i, none⟩ (.int .i64 v)) B M gt gs aav p av bv ⟨s.ts.set i v, s.mem⟩ := by
  obtain ⟨h1, h2, h3, h4, h5, h6, h7, h8, h9, h10, h11, h12⟩ := h
  have hg := grown_setCell w ⟨gt, i, none⟩ (.int .i64 v)
  refine ⟨?_, ?_, h3.kept hg ?_, fun j hj => ?_, h5, h6, h7, h8, h9, h10, h11, h12⟩
  · rw [(hg.block _ (lt_of_blk h1) (fun e => by injection e with e; exact h9 e.symm)), h1]
    simp
  · rw [blk_set h2 i (.int .i64 v), ints_set]
  · cases hv : aav.ownBlock with
    | none => exact .inl rfl
    | some r => exact .inr (fun e => by injection e with e; exact (h12 r hv).2.1 e)
  · exact (hg.block _ (lt_of_blk (h4 j hj)) (fun e => by injection e with e; exact (h10 _ (getD_memI gs j 0 hj)).2 e)).trans (h4 j hj)
theorem nodup_getD {l : List Nat} (h : l.Nodup) (i j : Nat) (hi : i < l.length) (hj : j < l.length) (e : l.getD i 0 = l.getD j 0) : i = j := by
  rw [List.getD_eq_getElem?_getD, List.getElem?_eq_getElem hi, List.getD_eq_getElem?_getD, List.getElem?_eq_getElem hj] at e
  exact (List.getElem_inj h).1 e
theorem map_len_set (m : List (List Int)) (j i : Nat) (v : Int) : (m.set j ((m.getD j []).set i v)).map List.length = m.map List.length := by
  apply List.ext_getElem?
  intro q
  rw [List.getElem?_map, List.getElem?_map, List.getElem?_set]
  split
  · rename_i e
    subst e
    split
    · rename_i h1
      rw [getD_some m j [] h1]; simp
    · rename_i h1
      rw [List.getElem?_eq_none (by omega)]
  · rfl
theorem RunAt.setM (h : RunAt w B M gt gs aav p av bv s) (j : Nat) (hj : j < gs.length) (i : Nat) (v : Int) : RunAt (w.setCell ⟨gs.getD j 0, i, none⟩ (.int .i64 v)) B M gt gs aav p av bv ⟨s.ts, s.mem.set j ((s.mem.getD j []).set i v)⟩ := by
  obtain ⟨h1, h2, h3, h4, h5, h6, h7, h8, h9, h10, h11, h12⟩ := h
  have hg := grown_setCell w ⟨gs.getD j 0, i, none⟩ (.int .i64 v)
  have hjm := getD_memI gs j 0 hj
  refine ⟨?_, ?_, ?_, fun q hq => ?_, by simpa using h5, h6, h7, h8, h9, h10, h11, h12⟩
  · exact (hg.block _ (lt_of_blk h1) (fun e => by injection e with e; exact (h10 _ hjm).1 e.symm)).trans h1
  · exact (hg.block _ (lt_of_blk h2) (fun e => by injection e with e; exact (h10 _ hjm).2 e.symm)).trans h2
  · rw [show (St.mk s.ts (s.mem.set j ((s.mem.getD j []).set i v))).mem = s.mem.set j ((s.mem.getD j []).set i v) from rfl, map_len_set]
    refine h3.kept hg ?_
    cases hv : aav.ownBlock with
    | none => exact .inl rfl
    | some r => exact .inr (fun e => by injection e with e; exact (h12 r hv).2.2 (by rw [e]; exact hjm))
  · simp only
    by_cases e : j = q
    · subst e
      rw [blk_set (h4 j hj) i (.int .i64 v), ints_set, getD_set_self _ _ _ _ (by omega)]
    · rw [getD_set_ne _ _ _ _ _ e]
      exact (hg.block _ (lt_of_blk (h4 q hq)) (fun e2 => by injection e2 with e2; exact e (nodup_getD h11 _ _ hj hq e2.symm))).trans (h4 q hq)
end
end Go.Proofs.Ytiaimceefkdchaa
