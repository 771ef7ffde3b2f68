/- Parts of a proof, joined. No condition but those that each theorem names. -/
import Derived.WalkKit
import Derived.OpenShut
import Derived.Below
import Derived.Lib.Hide
import Derived.Laws.OwnMore
import Derived.Deep.QuietTactic
import Derived.Deep.AppendLies
import Derived.ProofKit
import Derived.SizedLaws
import Derived.Test.YthkobddggoojlaaProg
import Derived.Handy
import Derived.Deep.RegionHeld3
import Derived.BigQuiet
import Derived.Maps.AppendAt
import Derived.Maps.RangeWalk
import Derived.Maps.OwnSet
import Derived.StillTailTactics
import Derived.Laws.CopyOwn
import Derived.Lib.BufferWrite
import Derived.OrdersHeld
import Derived.RegionTactic
import Derived.Deep.DeepCutAuto
import Derived.RangeFuncNested
import Derived.RangeFuncBound
import Derived.RangeFuncCalls
import Derived.RangeFuncLeaves
import Derived.OwnWalkIn
import Derived.TacticsInMore
import Derived.LoopNIn
import Derived.LoopIn
import Derived.Shelf.Abstract
import Derived.Shelf.RegionOpen
import Derived.OrdersIn
import Derived.TacticsIn
import Derived.Test.YthkobddggoojlaaTeG0e0
import Derived.Test.YthkobddggoojlaaTeG0e2
import Derived.Test.YthkobddggoojlaaTeG0e4
import Derived.Test.YthkobddggoojlaaTeG1e6
import Derived.Test.YthkobddggoojlaaTeG1e7
import Derived.Test.YthkobddggoojlaaTeG1e16
import Derived.Test.YthkobddggoojlaaTeG0e15
import Derived.Test.YthkobddggoojlaaTeG1e19
import Derived.Test.YthkobddggoojlaaTeG1e17
import Derived.Test.YthkobddggoojlaaTeG1e20
import Derived.Test.YthkobddggoojlaaTeTmC
import Derived.Test.YthkobddggoojlaaTeG3e22
import Derived.Test.YthkobddggoojlaaTeG0e1
import Derived.Test.YthkobddggoojlaaTeG0e8
import Derived.Test.YthkobddggoojlaaTeG1e21
namespace Go.Proofs.Ythkobddggoojlaa
open Go Go.RowKit
set_option linter.unusedVariables false
theorem wpListIn_app {F : Fence} {m : Nat} {P : Program} {w : World} {ops : Array Oper} {rest : List Oper} {o : Oper} {a : Act} {Q : Exit → Act → World → Prop} (hgd : o.guard = none) (s x : Operand) (t : TypeId)
    (ho : o.op = .call { callee := .builtin .append, args := #[s, x], argTypes := #[t, t] }) {v xv v' : Value} {w' : World} (hrun : (Builtin.append_ #[t, t] o.type #[v, xv]).run P w = .ok v' w') (hs : a.eval s = v) (hx : a.eval x = xv)
    (h : wpListIn F m P ops Q rest (a.put o.dst v') w') : wpListIn F m P ops Q (o :: rest) a w := by
  refine wpListIn_plain hgd fun K hK => ?_
  unfold Oper.wpIn
  refine ⟨by simp [Oper.about, ho, resolve, Target.leads, Sem.run_pure], ?_⟩
  rw [Oper.semAt_plain F _ _ (by rw [ho]; intro c hc'; cases hc')]
  simp [execOp, ho, resolve, invoke, builtin, hs, hx, hrun, Result.andThen]
  exact hK _ _ h
theorem step_appI {F : Fence} {m : Nat} {P : Program} {w : World} {o : Oper} {a : Act} {K : Act → World → Prop} {Q : Exit → Act → World → Prop} (s x : Operand) (t : TypeId)
    (ho : o.op = .call { callee := .builtin .append, args := #[s, x], argTypes := #[t, t] }) {v xv v' : Value} {w' : World} (hrun : (Builtin.append_ #[t, t] o.type #[v, xv]).run P w = .ok v' w') (hs : a.eval s = v) (hx : a.eval x = xv)
    (h : K (a.put o.dst v') w') : Oper.wpIn F m P o a w K Q := by
  unfold Oper.wpIn
  refine ⟨by simp [Oper.about, ho, resolve, Target.leads, Sem.run_pure], ?_⟩
  rw [Oper.semAt_plain F _ _ (by rw [ho]; intro c hc'; cases hc')]
  simp [execOp, ho, resolve, invoke, builtin, hs, hx, hrun, Result.andThen]
  exact h
theorem LoopKept.cell {B : Nat} {W W' : World} (h : LoopKept B W W') {a : Addr} {v : Value} (hc : W.cell? a = some v) : W'.cell? a = some v := by
  obtain ⟨o, h1, h2⟩ := cells_of_cell hc
  rw [World.cell?_of_block ((h.2 _ _ h1 h2).trans h1.symm)]
  exact hc
theorem TmAt.loop {B : Nat} {w w' : World} {G V : Nat} {bad : List Nat} {l : List Blk} {s : List Bool} {ovs : List Value} (h : TmAt w G V bad l s ovs) (hk : LoopKept B w w') : TmAt w' G V bad l s ovs := by
  obtain ⟨cur, h1, h2⟩ := h.row
  refine ⟨h.len, ⟨cur, hk.2 _ _ h1 rfl, h2⟩, fun i ov b h3 h4 => ?_, h.gin, h.vin, hk.2 _ _ h.flag rfl⟩
  obtain ⟨⟨A, c, e, hc, hx⟩, f⟩ := h.ops i ov b h3 h4
  refine ⟨⟨A, c, e, hc, fun k t ht => ?_⟩, f⟩
  obtain ⟨bb, off, es, e1, hb, hr, hcell⟩ := hx k t ht
  exact ⟨bb, off, es, e1, by have := hk.1.size; omega, hr, fun j u hj => hk.cell (hcell j u hj)⟩
theorem TmAt.old2 {w w' : World} {G V : Nat} {bad : List Nat} {l : List Blk} {s : List Bool} {ovs : List Value} (h : TmAt w G V bad l s ovs) (hb : Below w.heap.size w w') {r : Nat} (hr : w.heap.size ≤ r) (i : Nat) (ov : Value) (b : Blk) (h1 : ovs[i]? = some ov) (h2 : l[i]? = some b) (hne : b.ops ≠ []) (a : Addr) (n c : Nat) (e : ov = .slice (some a) n c) : a.block ≠ r := h.old hr i ov b h1 h2 hne a n c e
/-- What lies while blocks are put behind others: w ahead of the call, NB and A the row of counts. -/
structure JoM (w : World) (T G V cap n NB A : Nat) (bad : List Nat) (cl : List Int) (l : List Blk) (s : List Bool) (W : World) : Prop where
  tm : ∃ ovs, TmAt W G V bad l (tdNot s) ovs
  tbx : TiBox W T G V cap n
  box : W.heap[w.heap.size]? = some (.cells #[.pointer (some ⟨T, 0, none⟩)] 47 (0, 0))
  cel : W.heap[NB]? = some (.cells #[.slice (some ⟨A, 0, none⟩) n n] 72 (0, 0))
  row : W.heap[A]? = some (.cells (ints cl) 3 (0, 0))
  oth : ∀ (q : Nat) (x : Obj), q ≠ G → q ≠ V → w.heap[q]? = some x → W.heap[q]? = some x
  siz : w.heap.size ≤ W.heap.size
  env : W.os = w.os ∧ W.tape = w.tape ∧ W.output = w.output
section
variable {w W W' : World} {T G V cap n NB A : Nat} {bad : List Nat} {cl : List Int} {l : List Blk} {s : List Bool}
theorem JoM.below (h : JoM w T G V cap n NB A bad cl l s W) (hb : Below W.heap.size W W') : JoM w T G V cap n NB A bad cl l s W' := by
  obtain ⟨ovs, ht⟩ := h.tm
  exact ⟨⟨ovs, ht.below hb⟩, h.tbx.below hb, (hb.block _ (lt_of_blk h.box)).trans h.box, (hb.block _ (lt_of_blk h.cel)).trans h.cel, (hb.block _ (lt_of_blk h.row)).trans h.row,
    fun q x h1 h2 h3 => (hb.block _ (lt_of_blk (h.oth q x h1 h2 h3))).trans (h.oth q x h1 h2 h3), by have := hb.size; have := h.siz; omega, hb.os.trans h.env.1, hb.tape.trans h.env.2.1, hb.output.trans h.env.2.2⟩
theorem JoM.loop {B : Nat} (h : JoM w T G V cap n NB A bad cl l s W) (hB : w.heap.size ≤ B) (hk : LoopKept B W W') : JoM w T G V cap n NB A bad cl l s W' := by
  obtain ⟨ovs, ht⟩ := h.tm
  exact ⟨⟨ovs, ht.loop hk⟩, hk.2 _ _ h.tbx rfl, hk.2 _ _ h.box rfl, hk.2 _ _ h.cel rfl, hk.2 _ _ h.row rfl,
    fun q x h1 h2 h3 => (hk.1.block q (by have := lt_of_blk h3; omega)).trans (h.oth q x h1 h2 h3), by have := hk.1.size; have := h.siz; omega, hk.1.os.trans h.env.1, hk.1.tape.trans h.env.2.1, hk.1.output.trans h.env.2.2⟩
theorem JoM.put (h : JoM w T G V cap n NB A bad cl l s W) (hTG : T ≠ G) (hH : G < w.heap.size) (hNB : w.heap.size < NB) (hA : w.heap.size < A) {l' : List Blk} {ovs : List Value} (ht : TmAt W' G V bad l' (tdNot s) ovs) (hb : ∀ {B : Nat} {w0 : World}, B ≤ G → Below B w0 W → Below B w0 W') (hsz : W'.heap.size = W.heap.size) (hk : ∀ g x, g ≠ G → W.heap[g]? = some x → W'.heap[g]? = some x) : JoM w T G V cap n NB A bad cl l' s W' := by
  have h0 := hb (Nat.zero_le G) (Below.refl 0 W)
  exact ⟨⟨ovs, ht⟩, hk _ _ hTG h.tbx, hk _ _ (by omega) h.box, hk _ _ (by omega) h.cel, hk _ _ (by omega) h.row, fun q x h1 h2 h3 => hk _ _ h1 (h.oth q x h1 h2 h3), by rw [hsz]; exact h.siz, h0.os.trans h.env.1, h0.tape.trans h.env.2.1, h0.output.trans h.env.2.2⟩
theorem JoM.flag (h : JoM w T G V cap n NB A bad cl l s W) (hGV : G ≠ V) (hTV : T ≠ V) (hH : V < w.heap.size) (hNB : w.heap.size < NB) (hA : w.heap.size < A) (c : Nat) : JoM w T G V cap n NB A bad cl l (s.set c false) (W.setCell ⟨V, c, none⟩ (.bool true)) := by
  obtain ⟨ovs, ht⟩ := h.tm
  have hk : ∀ g x, g ≠ V → W.heap[g]? = some x → (W.setCell ⟨V, c, none⟩ (.bool true)).heap[g]? = some x := fun g x h1 h2 => blk_far h2 _ _ (fun e => h1 e.symm)
  have h0 := (Below.refl 0 W).setCell (p := ⟨V, c, none⟩) (Nat.zero_le _) (.bool true)
  have ht2 := ht.setFlag hGV c true
  rw [← Bool.not_false, ← tdNot_set] at ht2
  exact ⟨⟨ovs, ht2⟩, hk _ _ hTV h.tbx, hk _ _ (by omega) h.box, hk _ _ (by omega) h.cel, hk _ _ (by omega) h.row, fun q x h1 h2 h3 => hk _ _ h2 (h.oth q x h1 h2 h3), by simpa [World.setCell] using h.siz, h0.os.trans h.env.1, h0.tape.trans h.env.2.1, h0.output.trans h.env.2.2⟩
theorem JoM.bel (h : JoM w T G V cap n NB A bad cl l s W) {H : Nat} (hG : H ≤ G) (hV : H ≤ V) (hH : H ≤ w.heap.size) : Below H w W := by
  refine ⟨h.env.1, h.env.2.1, h.env.2.2, h.siz, fun q hq => ?_⟩
  have h1 : w.heap[q]? = some (w.heap[q]'(by omega)) := Array.getElem?_eq_getElem _
  rw [h.oth q _ (by omega) (by omega) h1, h1]
end
end Go.Proofs.Ythkobddggoojlaa
namespace Go.Proofs.Ythkobddggoojlaa
open Go Go.RowKit
set_option linter.unusedVariables false
/-- What holds between two places while numbers are told. -/
structure NuSt (n : Nat) (s : List Bool) (T : Nat) (w : World) (k : Nat) (W : World) : Prop where
  bel : Below w.heap.size w W
  box : W.heap[w.heap.size]? = some (.cells #[.pointer (some ⟨T, 0, none⟩)] 47 (0, 0))
  cel : W.heap[w.heap.size + 1 + 1]? = some (.cells #[.slice (some ⟨w.heap.size + 1, 0, none⟩) n n] 72 (0, 0))
  num : W.heap[w.heap.size + 1 + 1 + 1]? = some (.cells #[.int .i64 (tdRank s k : Nat)] 3 (0, 0))
  row : ∃ xs : List Int, xs.length = n ∧ W.heap[w.heap.size + 1]? = some (.cells (ints xs) 3 (0, 0)) ∧ ∀ j, j < k → s.getD j false = true → xs.getD j 0 = (tdRank s j : Nat)
section
variable {n : Nat} {s : List Bool} {T : Nat} {w : World} {k B : Nat} {W W' : World}
theorem NuSt.kept (h : NuSt n s T w k W) (hB : w.heap.size ≤ B) (hk : LoopKept B W W') : NuSt n s T w k W' := by
  obtain ⟨xs, h1, h2, h3⟩ := h.row
  exact ⟨h.bel.trans (hk.1.mono hB), hk.2 _ _ h.box rfl, hk.2 _ _ h.cel rfl, hk.2 _ _ h.num rfl, xs, h1, hk.2 _ _ h2 rfl, h3⟩
theorem NuSt.skip (h : NuSt n s T w k W) (hk : k < s.length) (hf : s.getD k false = false) : NuSt n s T w (k + 1) W := by
  obtain ⟨xs, h1, h2, h3⟩ := h.row
  refine ⟨h.bel, h.box, h.cel, by rw [tdRank_succ s k hk, hf]; exact h.num, xs, h1, h2, fun j hj hs => ?_⟩
  by_cases e : j = k
  · subst e; rw [hf] at hs; cases hs
  · exact h3 j (by omega) hs
end
theorem tdNam_congr {g g' : Int → Int} {t : Trm} (h : ∀ x ∈ tdTg t, g x = g' x) (hn : g (-1) = g' (-1)) : tdNam g t = tdNam g' t := by
  have key : ∀ x, x ∈ tdTg t ∨ x = -1 → g x = g' x := fun x hx => hx.elim (h x) (fun e => by rw [e]; exact hn)
  unfold tdNam
  split
  · rename_i h1
    rw [key t.yes (by unfold tdTg tdOne; rw [if_pos h1]; split <;> simp_all)]
  · split
    · rename_i h1 h2
      rw [key t.yes (by unfold tdTg tdOne; rw [if_neg h1, if_pos h2]; split <;> simp_all), key t.no (by unfold tdTg tdOne; rw [if_neg h1, if_pos h2]; split <;> split <;> simp_all)]
    · rfl
/-- What holds between two places while blocks are put out. -/
structure NvSt (n : Nat) (l : List Blk) (s : List Bool) (T : Nat) (w : World) (OB : Nat) (xs : List Int) (k : Nat) (W : World) : Prop where
  bel : Below w.heap.size w W
  box : W.heap[w.heap.size]? = some (.cells #[.pointer (some ⟨T, 0, none⟩)] 47 (0, 0))
  cel : W.heap[w.heap.size + 1 + 1]? = some (.cells #[.slice (some ⟨w.heap.size + 1, 0, none⟩) n n] 72 (0, 0))
  row : W.heap[w.heap.size + 1]? = some (.cells (ints xs) 3 (0, 0))
  out : ∃ v ovs, W.heap[OB]? = some (.cells #[v] 23 (0, 0)) ∧ RoAt W (OB + 3) w.heap.size [] v (tdOut l s k) ovs
section
variable {n : Nat} {l : List Blk} {s : List Bool} {T : Nat} {w : World} {OB : Nat} {xs : List Int} {k B : Nat} {W W' : World}
theorem ownsRow_loop {base t m : Nat} {v : Value} {q : Nat} {ys : List Value} (h : W.ownsRow base t m v q ys) (hk : LoopKept B W W') : W'.ownsRow base t m v q ys := by
  obtain ⟨h1, h2 | ⟨g, cap, cur, e, h3, h4, h5⟩⟩ := h
  · exact ⟨h1, Or.inl h2⟩
  · exact ⟨h1, Or.inr ⟨g, cap, cur, e, h3, hk.2 _ _ h4 rfl, h5⟩⟩
theorem NvSt.kept (h : NvSt n l s T w OB xs k W) (hB : w.heap.size ≤ B) (hk : LoopKept B W W') : NvSt n l s T w OB xs k W' := by
  obtain ⟨v, ovs, h1, h2⟩ := h.out
  exact ⟨h.bel.trans (hk.1.mono hB), hk.2 _ _ h.box rfl, hk.2 _ _ h.cel rfl, hk.2 _ _ h.row rfl, v, ovs, hk.2 _ _ h1 rfl, h2.len, ownsRow_loop h2.row hk, fun i ov b h3 h4 => ⟨(h2.ops i ov b h3 h4).1.below (hk.1.mono hB) (Nat.le_refl _), (h2.ops i ov b h3 h4).2⟩⟩
theorem NvSt.skip (h : NvSt n l s T w OB xs k W) (hf : s.getD k false = false) : NvSt n l s T w OB xs (k + 1) W := by
  have e : tdOut l s (k + 1) = tdOut l s k := by
    show tdOut l s k ++ _ = _
    rw [hf]; simp
  obtain ⟨v, ovs, h1, h2⟩ := h.out
  exact ⟨h.bel, h.box, h.cel, h.row, v, ovs, h1, by rw [e]; exact h2⟩
end
end Go.Proofs.Ythkobddggoojlaa
