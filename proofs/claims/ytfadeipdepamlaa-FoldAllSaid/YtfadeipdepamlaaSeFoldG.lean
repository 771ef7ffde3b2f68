/- Parts of a proof. No condition but those that each theorem names. -/
import Derived.WalkKit
import Derived.OpenShut
import Derived.Below
import Derived.Lib.Hide
import Derived.Laws.OwnMore
import Derived.Deep.QuietTactic
import Derived.Deep.AppendLies
import Derived.ProofKit
import Derived.SizedLaws
import Derived.Test.YtfadeipdepamlaaProg
import Derived.Handy
import Derived.Deep.RegionHeld3
import Derived.BigQuiet
import Derived.Maps.AppendAt
import Derived.Maps.RangeWalk
import Derived.Maps.OwnSet
import Derived.StillTailTactics
import Derived.Laws.CopyOwn
import Derived.Lib.BufferWrite
import Derived.OrdersHeld
import Derived.RegionTactic
import Derived.Deep.DeepCutAuto
import Derived.Test.YtfadeipdepamlaaSeG0e0
import Derived.Test.YtfadeipdepamlaaSeG0e1
import Derived.Test.YtfadeipdepamlaaSeG0e2
import Derived.Test.YtfadeipdepamlaaSeG0e4
import Derived.Test.YtfadeipdepamlaaSeIrC
import Derived.Test.YtfadeipdepamlaaSeG1e5
import Derived.Test.YtfadeipdepamlaaSeG1e6
import Derived.Test.YtfadeipdepamlaaSeG1e10
import Derived.Test.YtfadeipdepamlaaSeG0e5
import Derived.Test.YtfadeipdepamlaaSeG0e11
import Derived.Test.YtfadeipdepamlaaSeG0e12
import Derived.Test.YtfadeipdepamlaaSeG1e13
import Derived.Test.YtfadeipdepamlaaSeG1e14
import Derived.Test.YtfadeipdepamlaaSeG0e13
import Derived.Test.YtfadeipdepamlaaSeFoldM
import Derived.Test.YtfadeipdepamlaaSeFoldA
import Derived.Test.YtfadeipdepamlaaSeFoldE
import Derived.Test.YtfadeipdepamlaaSeFoldF
namespace Go.Proofs.Ytfadeipdepamlaa
open Go.RowKit Go.Maps
set_option linter.unusedVariables false
theorem below_grown {w w' : World} (hb : Below w.heap.size w w') (row : Option Nat) : w.grownBy w' row := ⟨hb.os, hb.tape, hb.output, hb.size, fun k hk _ => hb.block k hk⟩
theorem MapAt.isMap {w : World} {b n : Nat} {f : Int → Option Int} (h : MapAt w b n f) : ∃ es c, w.heap[b]? = some (.map es c) := by
  obtain ⟨D, ⟨es, c, h, _⟩, _⟩ := h
  exact ⟨es, c, h⟩
/-- A call that writes a map alone keeps all cells. -/
theorem grown_cells {w w' : World} {b n n' : Nat} {f f' : Int → Option Int} (hg : w.grownBy w' (some b)) (h : MapAt w b n f) (h' : MapAt w' b n' f') (p : Addr) (hp : p.block < w.heap.size) : w'.cell? p = w.cell? p := by
  by_cases e : p.block = b
  · obtain ⟨es, c, h1⟩ := h.isMap
    obtain ⟨es', c', h2⟩ := h'.isMap
    rw [← e] at h1 h2
    simp [World.cell?, h1, h2]
  · exact World.cell?_of_block (w := w) (hg.block p.block hp (fun h => e (by injection h)))
theorem own_not_map {w : World} {B t m : Nat} {v : Value} {k : Nat} {ys : List Value} (h : w.ownsRow B t m v k ys) {b n : Nat} {f : Int → Option Int} (hm : MapAt w b n f) : v.ownBlock = none ∨ v.ownBlock ≠ some b := by
  rcases h.2 with ⟨rfl, _⟩ | ⟨g, cap, cur, rfl, _, hg, _⟩
  · exact Or.inl rfl
  · right
    intro e
    injection e with e
    have e : g = b := e
    obtain ⟨es, c, h1⟩ := hm.isMap
    rw [← e, hg] at h1
    cases h1
/-- A round of fold's block begins: H is the heap's size where the call began; the map lies below it. -/
structure FdAt (w0 : World) (H : Nat) (w : World) (bc : Array Value) (ov : Value) (l : List Opn) (F b n : Nat) (f : Int → Option Int) : Prop where
  bX : w.heap[H]? = some (.cells bc 39 (0, 0))
  bR : w.heap[H + 1]? = some (.cells zBlk 39 (0, 0))
  bO : w.heap[H + 1 + 1]? = some (.cells #[ov, .int .i64 0, .int .i64 0, .int .i64 0, .int .i64 0] 39 (0, 0))
  row : w.ownsRow (H + 3) 41 6 ov l.length (opsCells l)
  fo : FoAt w F b n f
  gr : w0.grownBy w (some b)
  siz : H + 3 ≤ w.heap.size
  h0 : w0.heap.size = H
  lt : F < H ∧ b < H
section
variable {w0 w w' : World} {H : Nat} {bc : Array Value} {ov : Value} {l : List Opn} {f : Int → Option Int} {F b n : Nat}
theorem FdAt.below (h : FdAt w0 H w bc ov l F b n f) (hb : Below w.heap.size w w') : FdAt w0 H w' bc ov l F b n f :=
  ⟨(hb.block _ (lt_of_blk h.bX)).trans h.bX, (hb.block _ (lt_of_blk h.bR)).trans h.bR, (hb.block _ (lt_of_blk h.bO)).trans h.bO, own_below h.row hb, h.fo.below hb, h.gr.andThen (below_grown hb none) (fun j hj => by cases hj), by have := h.siz; have := hb.size; omega, h.h0, h.lt⟩
theorem FdAt.setOther (h : FdAt w0 H w bc ov l F b n f) (q : Addr) (u : Value) (hq : H + 3 ≤ q.block) (ho : ov.ownBlock ≠ some q.block) : FdAt w0 H (w.setCell q u) bc ov l F b n f := by
  obtain ⟨l1, l2⟩ := h.lt
  refine ⟨blk_far h.bX q u (by omega), blk_far h.bR q u (by omega), blk_far h.bO q u (by omega), h.row.kept (grown_setCell w q u) (by cases hv : ov.ownBlock with
      | none => exact Or.inl rfl
      | some r => exact Or.inr (fun e => ho (hv.trans e))), ⟨blk_far h.fo.box q u (by omega), h.fo.mp.setCell q u (by omega)⟩, h.gr.andThen (grown_setCell w q u) (fun j hj => ?_), by have := h.siz; simp [World.setCell]; exact this, h.h0, h.lt⟩
  injection hj with hj
  have := h.h0
  exact Or.inl (by omega)
theorem FdAt.map (h : FdAt w0 H w bc ov l F b n f) (hg : w.grownBy w' (some b)) {f' : Int → Option Int} {n' : Nat} (hm : MapAt w' b n' f') : FdAt w0 H w' bc ov l F b n' f' := by
  obtain ⟨l1, l2⟩ := h.lt
  have hF : F ≠ b := fun e => by
    obtain ⟨es, c, h1⟩ := h.fo.mp.isMap
    rw [← e, h.fo.box] at h1
    cases h1
  have hs := h.siz
  refine ⟨(hg.block _ (lt_of_blk h.bX) (by simp; omega)).trans h.bX, (hg.block _ (lt_of_blk h.bR) (by simp; omega)).trans h.bR, (hg.block _ (lt_of_blk h.bO) (by simp; omega)).trans h.bO,
    h.row.kept hg (own_not_map h.row h.fo.mp), ⟨(hg.block _ (lt_of_blk h.fo.box) (by simp; exact hF)).trans h.fo.box, hm⟩, h.gr.andThen hg (fun j hj => Or.inr hj), by have := hg.size; omega, h.h0, h.lt⟩
theorem FdAt.push (h : FdAt w0 H w bc ov l F b n f) (o : Opn) (hn : l.length ≤ 2000000) :
    ∃ v' w3, (Builtin.append_ #[34, 34] 34 #[ov, .slice (some ⟨w.heap.size, 0, none⟩) 1 1]).run Try.prog (w.alloc (.cells #[.int .i64 o.kind, .int .i64 o.dst, .int .i64 o.a, .int .i64 o.b, .int .i64 o.c, .int .i64 o.imm] 41)) = .ok v' w3 ∧
      w3.cell? ⟨H + 1 + 1, 0, none⟩ = some ov ∧ w3.frozen? ⟨H + 1 + 1, 0, none⟩ = false ∧ FdAt w0 H (w3.setCell ⟨H + 1 + 1, 0, none⟩ v') bc v' (l ++ [o]) F b n f ∧
      (∀ {g x}, w.heap[g]? = some x → H + 3 ≤ g → ov.ownBlock ≠ some g → (w3.setCell ⟨H + 1 + 1, 0, none⟩ v').heap[g]? = some x) ∧ (∃ A c, v' = .slice A (l.length + 1) c) := by
  obtain ⟨v', w3, a1, a2, a3, a4⟩ := run_append_op w (H + 3) ov l h.row o hn h.siz
  have hs := h.siz
  have hh := h.h0
  obtain ⟨l1, l2⟩ := h.lt
  have hold : ∀ {g x}, w.heap[g]? = some x → ov.ownBlock ≠ some g → w3.heap[g]? = some x := by
    intro g x hg hne
    have hlb := lt_of_blk hg
    exact (a3.block g (by simp; omega) (fun e => hne e.symm)).trans (((bnew w _).block g hlb).trans hg)
  have hlow : ∀ g, g < H + 3 → ov.ownBlock ≠ some g := fun g hg e => by have := (h.row.lt g e).1; omega
  have k0 := hold h.bO (hlow _ (by omega))
  have hX := hold h.bX (hlow _ (by omega))
  have hR := hold h.bR (hlow _ (by omega))
  have hF := hold h.fo.box (hlow _ (by omega))
  have hM : MapAt w3 b n f := (h.fo.mp.below (bnew w _)).keep a3 (fun e => hlow b (by omega) e.symm)
  have hG3 : w0.grownBy w3 (some b) := (h.gr.andThen (World.grownBy_alloc w _ none) (fun j hj => by cases hj)).andThen a3 (fun j hj => Or.inl (by have := (h.row.lt j hj).1; omega))
  have hs3 : H + 3 ≤ w3.heap.size := by have := a3.size; simp at this; omega
  refine ⟨v', w3, a1, (cell_of_blk k0 0).1, (cell_of_blk k0 0).2, ⟨blk_far hX _ _ (by show H + 1 + 1 ≠ H; omega), blk_far hR _ _ (by show H + 1 + 1 ≠ H + 1; omega), blk_set k0 0 v', own_setCell a2 _ _ (by show H + 1 + 1 < H + 3; omega), ⟨blk_far hF _ _ (by show H + 1 + 1 ≠ F; omega), hM.setCell _ _ (by show H + 1 + 1 ≠ b; omega)⟩,
    hG3.andThen (grown_setCell w3 _ _) (fun j hj => by injection hj with hj; exact Or.inl (by rw [← hj]; show _ ≤ H + 1 + 1; omega)), by simp [World.setCell]; exact hs3, hh, l1, l2⟩, ?_, ?_⟩
  · intro g x hg hgH hne
    exact blk_far (hold hg hne) _ _ (by show H + 1 + 1 ≠ g; omega)
  · obtain ⟨A, c, e⟩ := ownN_len a2
    exact ⟨A, c, by rw [e]; simp⟩
end
/-- Behind the rounds: the row, the folder and the memory as it was. -/
structure FoG (w0 : World) (H : Nat) (w : World) (ov : Value) (l : List Opn) (F b n : Nat) (f : Int → Option Int) : Prop where
  row : w.ownsRow (H + 3) 41 6 ov l.length (opsCells l)
  fo : FoAt w F b n f
  gr : w0.grownBy w (some b)
  h0 : w0.heap.size = H
  lt : F < H ∧ b < H
theorem FdAt.toG {w0 w : World} {H : Nat} {bc : Array Value} {ov : Value} {l : List Opn} {f : Int → Option Int} {F b n : Nat} (h : FdAt w0 H w bc ov l F b n f) : FoG w0 H w ov l F b n f := ⟨h.row, h.fo, h.gr, h.h0, h.lt⟩
theorem FoG.below {w0 w w' : World} {H : Nat} {ov : Value} {l : List Opn} {f : Int → Option Int} {F b n : Nat} (h : FoG w0 H w ov l F b n f) (hb : Below w.heap.size w w') : FoG w0 H w' ov l F b n f := ⟨own_below h.row hb, h.fo.below hb, h.gr.andThen (below_grown hb none) (fun j hj => by cases hj), h.h0, h.lt⟩
theorem FoG.set {w0 w : World} {H : Nat} {ov : Value} {l : List Opn} {f : Int → Option Int} {F b n : Nat} (h : FoG w0 H w ov l F b n f) (q : Addr) (u : Value) (h1 : H ≤ q.block) (h2 : q.block < H + 3) : FoG w0 H (w.setCell q u) ov l F b n f := by
  obtain ⟨l1, l2⟩ := h.lt
  refine ⟨own_setCell h.row q u h2, ⟨blk_far h.fo.box q u (by omega), h.fo.mp.setCell q u (by omega)⟩, h.gr.andThen (grown_setCell w q u) (fun j hj => ?_), h.h0, h.lt⟩
  injection hj with hj
  have := h.h0
  exact Or.inl (by omega)
theorem MapAt.clear2 {w : World} {b n : Nat} {f : Int → Option Int} {T : TypeId} (hT : Try.prog.underlying T = some (.map 3 3)) (h : MapAt w b n f) (ty : TypeId) :
    ∃ w', (Builtin.clear_ #[T] ty #[.map (some b)]).run Try.prog w = .ok (.tuple #[]) w' ∧ MapAt w' b 0 (fun _ => none) ∧ w.grownBy w' (some b) ∧ w'.heap.size = w.heap.size := by
  obtain ⟨D, ⟨es, clock, hb, F, hs, hD⟩, hget⟩ := h
  refine ⟨ChangeMaps.setBlock w b (.map #[] clock), ?_, ⟨.map [], ⟨#[], clock, ChangeMaps.heap_setBlock_same hb _, ⟨by simp, MapKept.stamped_empty clock, by simp⟩, Nat.le_refl _, rfl⟩, mget_empty⟩, ⟨rfl, rfl, rfl, by simp [ChangeMaps.setBlock], fun i _ hi => ChangeMaps.heap_setBlock_other hb _ (fun e => hi (by rw [e]))⟩, by simp [ChangeMaps.setBlock]⟩
  simp [Builtin.clear_, run_underlying hT, MapKept.run_getObj_map hb, MapKept.run_setObj_map _ hb, Result.andThen, ChangeMaps.setBlock]
/-- The block is handed back; of what was there, the map alone is another one. -/
def FbPost (q : Blk) (F b : Nat) (w : World) (e : Ending) (w' : World) : Prop :=
  ∃ A c n' f', e = .returned (.agg #[.slice A q.ops.length c, .int .i64 q.term.kind, .int .i64 q.term.a, .int .i64 q.term.yes, .int .i64 q.term.no]) ∧ w'.ownsRow w.heap.size 41 6 (.slice A q.ops.length c) q.ops.length (opsCells q.ops) ∧ w.grownBy w' (some b) ∧ FoAt w' F b n' f'
set_option maxRecDepth 100000 in
set_option maxHeartbeats 8000000 in
theorem fold_block (F mb n0 : Nat) (f0 : Int → Option Int) (OA : Option Addr) (oc : Nat) (b : Blk) (hf : b.fine) (hqf : (fdBlk b).fine) (hn : b.ops.length ≤ 1048576) (w : World) (h : FoAt w F mb n0 f0) (hO : SlRep opEnc w w.heap.size (.slice OA b.ops.length oc) b.ops) :
    Calls Try.prog 19 #[.pointer (some ⟨F, 0, none⟩), .agg #[.slice OA b.ops.length oc, .int .i64 b.term.kind, .int .i64 b.term.a, .int .i64 b.term.yes, .int .i64 b.term.no]] w (FbPost (fdBlk b) F mb w) := by
  have HPL : Hid (∀ f' l', fdList b.ops = (f', l') → fdBlk b = ⟨l', fdTrm f' b.term⟩) := Lib.hid (fun f' l' e => by unfold fdBlk; rw [e])
  obtain ⟨ops, trm⟩ := b
  obtain ⟨_, hfo, htf⟩ := hf
  simp only at hn hfo hO htf ⊢
  have HO := Lib.hid hO
  have HFO := Lib.hid hfo
  have HTF := Lib.hid htf
  have HQF : Hid (∀ k, k < ops.length → (fdOp (fdList (ops.take k)).1 (ops.getD k opNone)).fine) := Lib.hid (fun k hk => by
    have h1 := hqf.2.1 ((fdList ops).2.getD k opNone) (getD_memI (fdList ops).2 k opNone (by rw [fdList_len]; exact hk))
    rw [fdList_at ops k hk] at h1
    exact h1)
  have htc : trm.kind = trm.kind := rfl
  generalize hPO : FbPost (fdBlk ⟨ops, trm⟩) F mb w = PO
  have HPO := Lib.hid hPO
  have HTM := Lib.hid (fun f n W h => fold_term F mb n f trm htf W h)
  obtain ⟨tk, ta, ty, tn⟩ := trm
  simp only
  have hw0 := h.box
  have hFl := lt_of_blk hw0
  have hbl := h.mp.lt
  have e1 := alloc_size w (.cells #[.slice OA ops.length oc, .int .i64 tk, .int .i64 ta, .int .i64 ty, .int .i64 tn] 39) rfl
  have e2 := alloc_size _ (.cells zBlk 39) e1
  have hX := alloc_old (alloc_last w _ rfl (.cells #[.slice OA ops.length oc, .int .i64 tk, .int .i64 ta, .int .i64 ty, .int .i64 tn] 39)) (.cells zBlk 39)
  have hR := alloc_last _ _ e1 (.cells zBlk 39)
  have hB := bal (bnew w (.cells #[.slice OA ops.length oc, .int .i64 tk, .int .i64 ta, .int .i64 ty, .int .i64 tn] 39)) (.cells zBlk 39)
  have hF1 := h.below hB
  have hzb : zBlk = #[.slice none 0 0, .int .i64 0, .int .i64 0, .int .i64 0, .int .i64 0] := rfl
  have HZB := Lib.hid hzb
  obtain ⟨wc, hclr, hmc, hgc, hsc⟩ := hF1.mp.clear2 Try.underlying49 0
  have c0 := hF1.cell
  rw [hzb] at hclr c0 hB hX hR e2 hF1 hgc hsc
  have HM0 := Lib.hid h.mp
  clear hPO hfo hO hqf htf htc hzb
  go_enter Try.func19, Try.ntmps19
  go_upto_region 1 with (fail)
  generalize (w.alloc (.cells #[.slice OA ops.length oc, .int .i64 tk, .int .i64 ta, .int .i64 ty, .int .i64 tn] 39)).alloc (.cells #[.slice none 0 0, .int .i64 0, .int .i64 0, .int .i64 0, .int .i64 0] 39) = w1 at *
  go_upto_region 3 with (fail)
  have hsw : w1.heap.size = w.heap.size + 2 := e2
  have hsc2 : wc.heap.size = w.heap.size + 1 + 1 := by rw [hsc, hsw]
  have hbc : mb ≠ w.heap.size ∧ mb ≠ w.heap.size + 1 ∧ F ≠ mb := ⟨by omega, by omega, fun e => by
    obtain ⟨es, c, h1⟩ := HM0.out.isMap
    rw [← e, hw0] at h1
    cases h1⟩
  have hXc := (hgc.block _ (lt_of_blk hX) (by intro e; injection e with e; exact hbc.1 e.symm)).trans hX
  have hRc := (hgc.block _ (lt_of_blk hR) (by intro e; injection e with e; exact hbc.2.1 e.symm)).trans hR
  have hFc := (hgc.block _ (lt_of_blk hF1.box) (by intro e; injection e with e; exact hbc.2.2 e)).trans hF1.box
  have hgw : w.grownBy wc (some mb) := (below_grown hB (some mb)).andThen hgc (fun j hj => Or.inr hj)
  have hfd : FdAt w w.heap.size (wc.alloc (.cells #[.slice none 0 0, .int .i64 0, .int .i64 0, .int .i64 0, .int .i64 0] 39)) #[.slice OA ops.length oc, .int .i64 tk, .int .i64 ta, .int .i64 ty, .int .i64 tn] (.slice none 0 0) [] F mb 0 (fdList (ops.take 0)).1 :=
    ⟨alloc_old hXc _, (by rw [HZB.out]; exact alloc_old hRc _), alloc_last _ _ hsc2 _, World.ownsRow_nil _ _ _ _, FoAt.below ⟨hFc, hmc⟩ (bnew _ _), hgw.andThen (World.grownBy_alloc _ _ none) (fun j hj => by cases hj), by rw [alloc_size _ _ hsc2]; omega, rfl, hFl, hbl⟩
  have HFD := Lib.hid hfd
  try rw [hsc2]
  clear hfd hgw hFc hRc hXc hbc hsc2 hsw hsc hgc hmc hclr c0 hF1 hB hR hX e2 e1 hFl hbl hw0
  generalize wc.alloc (.cells #[.slice none 0 0, .int .i64 0, .int .i64 0, .int .i64 0, .int .i64 0] 39) = w4 at *
  have x0 := (cell_of_blk HFD.out.bX 0).1
  have x0' : w4.cell? ⟨w.heap.size, 0, none⟩ = some (.slice OA ops.length oc) := x0
  clear x0
  go_wp2_with fail
  clear x0'
  go_loopw [15] (fun vi wr => ∃ (k n : Nat) (ov : Value), k ≤ ops.length ∧ n ≤ k ∧ vi = .int .i64 k ∧ FdAt w w.heap.size wr #[.slice OA ops.length oc, .int .i64 tk, .int .i64 ta, .int .i64 ty, .int .i64 tn] ov (fdList (ops.take k)).2 F mb n (fdList (ops.take k)).1) (fun vi _ => ops.length - (intOf vi).toNat)
  case atStart => exact ⟨0, 0, _, Nat.zero_le _, Nat.le_refl _, rfl, HFD.out⟩
  case round =>
    obtain ⟨k, n, ov, hk, hnk, rfl, hC⟩ := hrel
    have HC := Lib.hid hC
    by_cases hlt : k < ops.length
    · obtain ⟨ob, ooff, rfl, hob, x0, x1, x2, x3, x4, x5⟩ := op_at (SlRep.keep HO.out (Nat.le_refl _) (fun p hp => grown_cells hC.gr HM0.out hC.fo.mp p hp)) k hlt
      have hff := HFO.out _ (getD_memI ops k opNone hlt)
      have hqff := HQF.out k hlt
      have HSN : Hid (fdList (ops.take (k + 1)) = fdStep (fdList (ops.take k)) (ops.getD k opNone)) := Lib.hid (by rw [take_succ_getD ops k opNone hlt, fdList_snoc])
      have hlen := fdList_len (ops.take k)
      rw [List.length_take, Nat.min_eq_left hk] at hlen
      have k0 : (0 : Int) ≤ (k : Int) := by omega
      have k1 : (k : Int) < (ops.length : Int) := by omega
      generalize ops.getD k opNone = o at *
      generalize fdList (ops.take k) = S at *
      obtain ⟨f, l⟩ := S
      unfold fdStep at HSN
      have HOPC := Lib.hid (fun W h => fold_op F mb n f o hff W h)
      unfold opVal CopPost at HOPC
      unfold opVal at HOPC
      have hlen2 : l.length = k := hlen
      have HMK := Lib.hid (fun W => ir_Makes (fdOp f o) W)
      unfold opVal at HMK
      have hqff : (fdOp f o).fine := hqff
      generalize fdOp f o = q at *
      have HC1 := Lib.hid (HC.out.below (bnew wr (.cells #[.int .i64 o.kind, .int .i64 o.dst, .int .i64 o.a, .int .i64 o.b, .int .i64 o.c, .int .i64 o.imm] 41)))
      have hX1 := heap_alloc_new wr (.cells #[.int .i64 o.kind, .int .i64 o.dst, .int .i64 o.a, .int .i64 o.b, .int .i64 o.c, .int .i64 o.imm] 41)
      have HSZ : Hid (w.heap.size + 3 ≤ wr.heap.size) := Lib.hid HC.out.siz
      have HNE : Hid (ov.ownBlock ≠ some wr.heap.size) := Lib.hid (fun e => by have := (HC.out.row.lt _ e).2; omega)
      have HFQ := Lib.hid hqff
      clear hC hff hqff
      go_wp2_with fail
      generalize wr.alloc (.cells #[.int .i64 o.kind, .int .i64 o.dst, .int .i64 o.a, .int .i64 o.b, .int .i64 o.c, .int .i64 o.imm] 41) = w1' at *
      refine (HOPC.out _ HC1.out.fo).mono ?_
      rintro e w2 ⟨rfl, hb2⟩
      have hX2 := (hb2.block _ (lt_of_blk hX1)).trans hX1
      have HC2 := Lib.hid (HC1.out.below hb2)
      have hC6 := ((((((HC2.out.setOther ⟨wr.heap.size, 0, none⟩ (.int .i64 q.kind) HSZ.out HNE.out).setOther ⟨wr.heap.size, 1, none⟩ (.int .i64 q.dst) HSZ.out HNE.out).setOther ⟨wr.heap.size, 2, none⟩ (.int .i64 q.a) HSZ.out HNE.out).setOther ⟨wr.heap.size, 3, none⟩ (.int .i64 q.b) HSZ.out HNE.out).setOther ⟨wr.heap.size, 4, none⟩ (.int .i64 q.c) HSZ.out HNE.out).setOther ⟨wr.heap.size, 5, none⟩ (.int .i64 q.imm) HSZ.out HNE.out)
      have hX6 : ((((((w2.setCell ⟨wr.heap.size, 0, none⟩ (.int .i64 q.kind)).setCell ⟨wr.heap.size, 1, none⟩ (.int .i64 q.dst)).setCell ⟨wr.heap.size, 2, none⟩ (.int .i64 q.a)).setCell ⟨wr.heap.size, 3, none⟩ (.int .i64 q.b)).setCell ⟨wr.heap.size, 4, none⟩ (.int .i64 q.c)).setCell ⟨wr.heap.size, 5, none⟩ (.int .i64 q.imm)).heap[wr.heap.size]? = some (.cells #[.int .i64 q.kind, .int .i64 q.dst, .int .i64 q.a, .int .i64 q.b, .int .i64 q.c, .int .i64 q.imm] 41 (0, 0)) := (blk_set (blk_set (blk_set (blk_set (blk_set (blk_set hX2 0 (.int .i64 q.kind)) 1 (.int .i64 q.dst)) 2 (.int .i64 q.a)) 3 (.int .i64 q.b)) 4 (.int .i64 q.c)) 5 (.int .i64 q.imm))
      obtain ⟨d0, f0⟩ := cell_of_blk hX2 0
      obtain ⟨d1, f1⟩ := cell_of_blk hX2 1
      obtain ⟨d2, f2⟩ := cell_of_blk hX2 2
      obtain ⟨d3, f3⟩ := cell_of_blk hX2 3
      obtain ⟨d4, f4⟩ := cell_of_blk hX2 4
      obtain ⟨d5, f5⟩ := cell_of_blk hX2 5
      clear hX1 hb2 x0 x1 x2 x3 x4 x5
      have HX6 := Lib.hid hX6
      have HC6 := Lib.hid hC6
      clear hX6 hC6 hX2
      go_upto_region 7 with (fail)
      clear d0 d1 d2 d3 d4 d5 f0 f1 f2 f3 f4 f5
      generalize ((((((w2.setCell ⟨wr.heap.size, 0, none⟩ (.int .i64 q.kind)).setCell ⟨wr.heap.size, 1, none⟩ (.int .i64 q.dst)).setCell ⟨wr.heap.size, 2, none⟩ (.int .i64 q.a)).setCell ⟨wr.heap.size, 3, none⟩ (.int .i64 q.b)).setCell ⟨wr.heap.size, 4, none⟩ (.int .i64 q.c)).setCell ⟨wr.heap.size, 5, none⟩ (.int .i64 q.imm)) = w6 at *
      obtain ⟨QA, qc, rfl⟩ := ownN_len HC6.out.row
      have o0 := (cell_of_blk HC6.out.bO 0).1
      obtain ⟨e0, e1, e2, e3, e4, e5, _, _, _, _⟩ := op_cells_at HX6.out
      obtain ⟨v', w3, hrun, p1, p2, hC8, hK8, ⟨VA, vc, rfl⟩⟩ := HC6.out.push q (by omega)
      have hX8 := hK8 HX6.out HSZ.out HNE.out
      rw [hlen2] at hrun o0 p1 hC8 hX8
      have HRUN := Lib.hid hrun
      have HC8 := Lib.hid hC8
      have HX8 := Lib.hid hX8
      obtain ⟨g0, g1, g2, g3, g4, g5, _, _, _, _⟩ := op_cells_at hX8
      clear hrun hC8 hX8 hK8
      go_upto_region 8 with ((at_builtin; refine wpList_app rfl (.tmp 23) (.tmp 25) 34 rfl HRUN.out rfl rfl ?_))
      clear e0 e1 e2 e3 e4 e5 o0 p1 p2 HRUN
      generalize w3.setCell ⟨w.heap.size + 1 + 1, 0, none⟩ (.slice VA (k + 1) vc) = w8 at *
      by_cases hk1 : q.kind = 1
      · have q1 : (q.kind == 1) = true := by rw [beq_iff_eq]; exact hk1
        have hcm : fdMap f q = upd f q.dst q.imm := by unfold fdMap; rw [if_pos hk1]
        have HSN2 : Hid (fdList (ops.take (k + 1)) = (upd f q.dst q.imm, l ++ [q])) := Lib.hid (by rw [← hcm]; exact HSN.out)
        have LTG : wr.heap.size < w8.heap.size := lt_of_blk HX8.out
        have HC8d := Lib.hid (HC8.out.below (bdr (Below.refl w8.heap.size w8)))
        obtain ⟨w11, hrun, hm11, hg11⟩ := HC8d.out.fo.mp.store Try.underlying49 (by unfold maxLen; omega) q.dst q.imm (intR_lit HFQ.out.2.1) (intR_lit HFQ.out.2.2.2.2.2)
        have HC11 := Lib.hid (HC8d.out.map hg11 hm11)
        clear hk1 hcm hm11 hg11
        go_wp2_with fail
        refine wp_region_L (fun w' => Below w8.heap.size w8 w') 8 (by kernel_rfl) ?_
        have hS0 : Below w8.heap.size w8 w8.drew := Below.drew (Below.refl _ _)
        refine wpAnyL_take (i := 0) (some 32) (.pointer (some ⟨F, 0, none⟩)) rfl rfl (by kernel_rfl) (by kernel_rfl) (by kernel_rfl) (by kernel_rfl) (fun _ _ _ h => h) (by rfl) ?hvx1_0 hS0 ?restx1_0
        case hvx1_0 =>
          intro wz hSz
          go_simp
        try simp only [Act.put, List.setIfInBounds_toArray, List.set_cons_zero, List.set_cons_succ]
        refine wpAnyL_take (i := 1) (some 33) (.pointer (some ⟨F, 0, none⟩)) rfl rfl (by kernel_rfl) (by kernel_rfl) (by kernel_rfl) (by kernel_rfl) (fun _ _ _ h => h) (by rfl) ?hvx1_1 hS0 ?restx1_1
        case hvx1_1 =>
          intro wz hSz
          go_simp
        try simp only [Act.put, List.setIfInBounds_toArray, List.set_cons_zero, List.set_cons_succ]
        refine wpAnyL_take (i := 2) (some 34) (.pointer (some ⟨F, 0, none⟩)) rfl rfl (by kernel_rfl) (by kernel_rfl) (by kernel_rfl) (by kernel_rfl) (fun _ _ _ h => h) (by rfl) ?hvx1_2 hS0 ?restx1_2
        case hvx1_2 =>
          intro wz hSz
          go_simp
        try simp only [Act.put, List.setIfInBounds_toArray, List.set_cons_zero, List.set_cons_succ]
        refine wpAnyL_take (i := 3) (some 35) (.map (some mb)) rfl rfl (by kernel_rfl) (by kernel_rfl) (by kernel_rfl) (by kernel_rfl) (fun _ _ _ h => h) (by rfl) ?hvx1_3 hS0 ?restx1_3
        case hvx1_3 =>
          intro wz hSz
          have z0 := (HC8.out.fo.below hSz).cell
          go_simp
        try simp only [Act.put, List.setIfInBounds_toArray, List.set_cons_zero, List.set_cons_succ]
        refine wpAnyL_take (i := 4) (some 36) (.pointer (some ⟨wr.heap.size, 1, none⟩)) rfl rfl (by kernel_rfl) (by kernel_rfl) (by kernel_rfl) (by kernel_rfl) (fun _ _ _ h => h) (by rfl) ?hvx1_4 hS0 ?restx1_4
        case hvx1_4 =>
          intro wz hSz
          go_simp
        try simp only [Act.put, List.setIfInBounds_toArray, List.set_cons_zero, List.set_cons_succ]
        refine wpAnyL_take (i := 5) (some 37) (.int .i64 q.dst) rfl rfl (by kernel_rfl) (by kernel_rfl) (by kernel_rfl) (by kernel_rfl) (fun _ _ _ h => h) (by rfl) ?hvx1_5 hS0 ?restx1_5
        case hvx1_5 =>
          intro wz hSz
          have z1 := (hSz.cell (p := ⟨wr.heap.size, 1, none⟩) LTG).trans g1
          go_simp
        try simp only [Act.put, List.setIfInBounds_toArray, List.set_cons_zero, List.set_cons_succ]
        refine wpAnyL_take (i := 6) (some 38) (.pointer (some ⟨wr.heap.size, 5, none⟩)) rfl rfl (by kernel_rfl) (by kernel_rfl) (by kernel_rfl) (by kernel_rfl) (fun _ _ _ h => h) (by rfl) ?hvx1_6 hS0 ?restx1_6
        case hvx1_6 =>
          intro wz hSz
          go_simp
        try simp only [Act.put, List.setIfInBounds_toArray, List.set_cons_zero, List.set_cons_succ]
        refine wpAnyL_take (i := 7) (some 39) (.int .i64 q.imm) rfl rfl (by kernel_rfl) (by kernel_rfl) (by kernel_rfl) (by kernel_rfl) (fun _ _ _ h => h) (by rfl) ?hvx1_7 hS0 ?restx1_7
        case hvx1_7 =>
          intro wz hSz
          have z5 := (hSz.cell (p := ⟨wr.heap.size, 5, none⟩) LTG).trans g5
          go_simp
        try simp only [Act.put, List.setIfInBounds_toArray, List.set_cons_zero, List.set_cons_succ]
        refine wpAnyL_one (i := 8) (by kernel_rfl) rfl ?_
        intro K hK
        rw [if_pos (by rfl)]
        go_simp
        refine hK.out _ _ (fun h => absurd rfl h) ?_
        clear hK
        refine wpAnyL_done (by kernel_rfl) ?_ _
        clear g0 g1 g2 g3 g4 g5 hrun
        go_wp2_with fail
        go_roundw
        case rel => exact ⟨k + 1, n + 1, _, by omega, by omega, by go_num, by rw [HSN2.out]; exact HC11.out⟩
        case measure => simp [intOf]; omega
      · have q1 : (q.kind == 1) = false := by rw [beq_eq_false_iff_ne]; exact hk1
        go_wp2_with fail
        refine (HMK.out _).mono ?_
        rintro e w9 ⟨rfl, hb9⟩
        have HC9 := Lib.hid (HC8.out.below hb9)
        have hX9 := (hb9.block _ (lt_of_blk HX8.out)).trans HX8.out
        clear g0 g1 g2 g3 g4 g5 hb9
        obtain ⟨g0, g1, g2, g3, g4, g5, _, _, _, _⟩ := op_cells_at hX9
        have HX9 := Lib.hid hX9
        clear hX9
        by_cases hmk : fDst q.kind = true
        · rw [hmk]
          have hcm : fdMap f q = fun k => if k = q.dst then none else f k := by unfold fdMap; rw [if_neg hk1, if_pos hmk]
          have HSN2 : Hid (fdList (ops.take (k + 1)) = (fun k => if k = q.dst then none else f k, l ++ [q])) := Lib.hid (by rw [← hcm]; exact HSN.out)
          have LTG : wr.heap.size < w9.heap.size := lt_of_blk HX9.out
          have HC9d := Lib.hid (HC9.out.below (bdr (Below.refl w9.heap.size w9)))
          obtain ⟨w11, hrun, hm11, hg11⟩ := HC9d.out.fo.mp.drop Try.underlying49 q.dst (intR_lit HFQ.out.2.1) 0
          have HC11 := Lib.hid (HC9d.out.map hg11 hm11)
          have hS11 : w11.cell? ⟨F, 0, none⟩ = some (.map (some mb)) ∧ w11.cell? ⟨wr.heap.size, 1, none⟩ = some (.int .i64 q.dst) := ⟨HC11.out.fo.cell, (grown_cells hg11 HC9d.out.fo.mp hm11 ⟨wr.heap.size, 1, none⟩ LTG).trans g1⟩
          clear hk1 hmk hcm hm11 hg11
          go_wp2_with fail
          refine wp_region_L (fun w' => w'.cell? ⟨F, 0, none⟩ = some (.map (some mb)) ∧ w'.cell? ⟨wr.heap.size, 1, none⟩ = some (.int .i64 q.dst)) 99 (by kernel_rfl) ?_
          have hS0 : w9.drew.cell? ⟨F, 0, none⟩ = some (.map (some mb)) ∧ w9.drew.cell? ⟨wr.heap.size, 1, none⟩ = some (.int .i64 q.dst) := ⟨HC9d.out.fo.cell, g1⟩
          refine wpAnyL_take (i := 0) (some 43) (.pointer (some ⟨F, 0, none⟩)) rfl rfl (by kernel_rfl) (by kernel_rfl) (by kernel_rfl) (by kernel_rfl) (fun _ _ _ h => h) (by rfl) ?hvx2_0 hS0 ?restx2_0
          case hvx2_0 =>
            intro wz hSz
            go_simp
          try simp only [Act.put, List.setIfInBounds_toArray, List.set_cons_zero, List.set_cons_succ]
          refine wpAnyL_take (i := 1) (some 44) (.pointer (some ⟨F, 0, none⟩)) rfl rfl (by kernel_rfl) (by kernel_rfl) (by kernel_rfl) (by kernel_rfl) (fun _ _ _ h => h) (by rfl) ?hvx2_1 hS0 ?restx2_1
          case hvx2_1 =>
            intro wz hSz
            go_simp
          try simp only [Act.put, List.setIfInBounds_toArray, List.set_cons_zero, List.set_cons_succ]
          refine wpAnyL_take (i := 2) (some 45) (.pointer (some ⟨F, 0, none⟩)) rfl rfl (by kernel_rfl) (by kernel_rfl) (by kernel_rfl) (by kernel_rfl) (fun _ _ _ h => h) (by rfl) ?hvx2_2 hS0 ?restx2_2
          case hvx2_2 =>
            intro wz hSz
            go_simp
          try simp only [Act.put, List.setIfInBounds_toArray, List.set_cons_zero, List.set_cons_succ]
          refine wpAnyL_take (i := 3) (some 46) (.map (some mb)) rfl rfl (by kernel_rfl) (by kernel_rfl) (by kernel_rfl) (by kernel_rfl) (fun _ _ _ h => h) (by rfl) ?hvx2_3 hS0 ?restx2_3
          case hvx2_3 =>
            intro wz hSz
            have z0 := hSz.1
            go_simp
          try simp only [Act.put, List.setIfInBounds_toArray, List.set_cons_zero, List.set_cons_succ]
          refine wpAnyL_take (i := 4) (some 47) (.pointer (some ⟨wr.heap.size, 1, none⟩)) rfl rfl (by kernel_rfl) (by kernel_rfl) (by kernel_rfl) (by kernel_rfl) (fun _ _ _ h => h) (by rfl) ?hvx2_4 hS0 ?restx2_4
          case hvx2_4 =>
            intro wz hSz
            go_simp
          try simp only [Act.put, List.setIfInBounds_toArray, List.set_cons_zero, List.set_cons_succ]
          refine wpAnyL_take (i := 5) (some 48) (.int .i64 q.dst) rfl rfl (by kernel_rfl) (by kernel_rfl) (by kernel_rfl) (by kernel_rfl) (fun _ _ _ h => h) (by rfl) ?hvx2_5 hS0 ?restx2_5
          case hvx2_5 =>
            intro wz hSz
            have z1 := hSz.2
            go_simp
          try simp only [Act.put, List.setIfInBounds_toArray, List.set_cons_zero, List.set_cons_succ]
          refine wpAnyL_one (i := 6) (by kernel_rfl) rfl ?_
          intro K hK
          rw [if_pos (by rfl)]
          go_simp
          refine hK.out _ _ (fun _ => hS11) ?_
          clear hK
          refine wpAnyL_done (by kernel_rfl) ?_ _
          clear g0 g1 g2 g3 g4 g5 hrun
          go_wp2_with fail
          go_roundw
          case rel => exact ⟨k + 1, n, _, by omega, by omega, by go_num, by rw [HSN2.out]; exact HC11.out⟩
          case measure => simp [intOf]; omega
        · have hmk2 : fDst q.kind = false := by simpa using hmk
          have hcm : fdMap f q = f := by unfold fdMap; rw [if_neg hk1, if_neg hmk]
          have HSN2 : Hid (fdList (ops.take (k + 1)) = (f, l ++ [q])) := Lib.hid (by rw [← hcm]; exact HSN.out)
          rw [hmk2]
          clear hk1 hmk hmk2 hcm
          go_wp2_with fail
          go_roundw
          case rel => exact ⟨k + 1, n, _, by omega, by omega, by go_num, by rw [HSN2.out]; exact HC9.out⟩
          case measure => simp [intOf]; omega
    · obtain rfl : k = ops.length := by omega
      have hlen := fdList_len ops
      rw [List.take_length] at hC
      clear HC
      generalize fdList ops = S at *
      obtain ⟨f, l⟩ := S
      have hpl := HPL.out f l rfl
      rw [hpl] at HPO
      have hlen : l.length = ops.length := hlen
      obtain ⟨QA, qc, rfl⟩ := ownN_len hC.row
      have hC : FdAt w w.heap.size wr #[.slice OA ops.length oc, .int .i64 tk, .int .i64 ta, .int .i64 ty, .int .i64 tn] (.slice QA l.length qc) l F mb n f := hC
      have HC := Lib.hid hC
      obtain ⟨x0, x1, x2, x3, x4, _, _⟩ := blk_cells_at hC.bX
      replace HTM := Lib.hid (fun W h => HTM.out f n W h)
      unfold TrmPost trmVal at HTM
      have HQQ : Hid (fdTrm f ⟨tk, ta, ty, tn⟩ = fdTrm f ⟨tk, ta, ty, tn⟩) := Lib.hid rfl
      generalize fdTrm f ⟨tk, ta, ty, tn⟩ = qt at *
      obtain ⟨qk, qa, qy, qn⟩ := qt
      simp only at HTM
      clear hC hpl HQQ
      go_wp2_with fail
      refine (HTM.out _ HC.out.fo).mono ?_
      rintro e w5 ⟨rfl, hb5⟩
      have HC5 := Lib.hid (HC.out.below hb5)
      obtain ⟨y1, t1⟩ := cell_of_blk HC5.out.bO 1
      obtain ⟨y2, t2⟩ := cell_of_blk HC5.out.bO 2
      obtain ⟨y3, t3⟩ := cell_of_blk HC5.out.bO 3
      obtain ⟨y4, t4⟩ := cell_of_blk HC5.out.bO 4
      clear x0 x1 x2 x3 x4 hb5
      go_upto_region 14 with (fail)
      have hO6 := (blk_set (blk_set (blk_set (blk_set HC5.out.bO 1 (.int .i64 qk)) 2 (.int .i64 qa)) 3 (.int .i64 qy)) 4 (.int .i64 qn))
      have hR6 := (blk_far (blk_far (blk_far (blk_far HC5.out.bR ⟨w.heap.size + 1 + 1, 1, none⟩ (.int .i64 qk) (by show w.heap.size + 1 + 1 ≠ w.heap.size + 1; omega)) ⟨w.heap.size + 1 + 1, 2, none⟩ (.int .i64 qa) (by show w.heap.size + 1 + 1 ≠ w.heap.size + 1; omega)) ⟨w.heap.size + 1 + 1, 3, none⟩ (.int .i64 qy) (by show w.heap.size + 1 + 1 ≠ w.heap.size + 1; omega)) ⟨w.heap.size + 1 + 1, 4, none⟩ (.int .i64 qn) (by show w.heap.size + 1 + 1 ≠ w.heap.size + 1; omega))
      have hG6 := ((((HC5.out.toG.set ⟨w.heap.size + 1 + 1, 1, none⟩ (.int .i64 qk) (by show w.heap.size ≤ w.heap.size + 1 + 1; omega) (by show w.heap.size + 1 + 1 < w.heap.size + 3; omega)).set ⟨w.heap.size + 1 + 1, 2, none⟩ (.int .i64 qa) (by show w.heap.size ≤ w.heap.size + 1 + 1; omega) (by show w.heap.size + 1 + 1 < w.heap.size + 3; omega)).set ⟨w.heap.size + 1 + 1, 3, none⟩ (.int .i64 qy) (by show w.heap.size ≤ w.heap.size + 1 + 1; omega) (by show w.heap.size + 1 + 1 < w.heap.size + 3; omega)).set ⟨w.heap.size + 1 + 1, 4, none⟩ (.int .i64 qn) (by show w.heap.size ≤ w.heap.size + 1 + 1; omega) (by show w.heap.size + 1 + 1 < w.heap.size + 3; omega))
      clear y1 y2 y3 y4 t1 t2 t3 t4
      generalize ((((w5.setCell ⟨w.heap.size + 1 + 1, 1, none⟩ (.int .i64 qk)).setCell ⟨w.heap.size + 1 + 1, 2, none⟩ (.int .i64 qa)).setCell ⟨w.heap.size + 1 + 1, 3, none⟩ (.int .i64 qy)).setCell ⟨w.heap.size + 1 + 1, 4, none⟩ (.int .i64 qn)) = w6 at *
      unfold zBlk at hR6
      have HR6 := Lib.hid hR6
      have HG6 := Lib.hid hG6
      obtain ⟨y0, y1, y2, y3, y4, _, _⟩ := blk_cells_at hO6
      obtain ⟨r0, s0⟩ := cell_of_blk hR6 0
      obtain ⟨r1, s1⟩ := cell_of_blk hR6 1
      obtain ⟨r2, s2⟩ := cell_of_blk hR6 2
      obtain ⟨r3, s3⟩ := cell_of_blk hR6 3
      obtain ⟨r4, s4⟩ := cell_of_blk hR6 4
      clear hR6 hO6 hG6
      go_wp2_with fail
      have hr7 := (blk_set (blk_set (blk_set (blk_set (blk_set HR6.out 0 (.slice QA ops.length qc)) 1 (.int .i64 qk)) 2 (.int .i64 qa)) 3 (.int .i64 qy)) 4 (.int .i64 qn))
      have hG7 := (((((HG6.out.set ⟨w.heap.size + 1, 0, none⟩ (.slice QA ops.length qc) (by show w.heap.size ≤ w.heap.size + 1; omega) (by show w.heap.size + 1 < w.heap.size + 3; omega)).set ⟨w.heap.size + 1, 1, none⟩ (.int .i64 qk) (by show w.heap.size ≤ w.heap.size + 1; omega) (by show w.heap.size + 1 < w.heap.size + 3; omega)).set ⟨w.heap.size + 1, 2, none⟩ (.int .i64 qa) (by show w.heap.size ≤ w.heap.size + 1; omega) (by show w.heap.size + 1 < w.heap.size + 3; omega)).set ⟨w.heap.size + 1, 3, none⟩ (.int .i64 qy) (by show w.heap.size ≤ w.heap.size + 1; omega) (by show w.heap.size + 1 < w.heap.size + 3; omega)).set ⟨w.heap.size + 1, 4, none⟩ (.int .i64 qn) (by show w.heap.size ≤ w.heap.size + 1; omega) (by show w.heap.size + 1 < w.heap.size + 3; omega))
      generalize (((((w6.setCell ⟨w.heap.size + 1, 0, none⟩ (.slice QA ops.length qc)).setCell ⟨w.heap.size + 1, 1, none⟩ (.int .i64 qk)).setCell ⟨w.heap.size + 1, 2, none⟩ (.int .i64 qa)).setCell ⟨w.heap.size + 1, 3, none⟩ (.int .i64 qy)).setCell ⟨w.heap.size + 1, 4, none⟩ (.int .i64 qn)) = w7 at *
      have k0 : w7.cell? ⟨w.heap.size + 1, 0, none⟩ = some (.slice QA ops.length qc) := (cell_of_blk hr7 0).1
      have k1 : w7.cell? ⟨w.heap.size + 1, 1, none⟩ = some (.int .i64 qk) := (cell_of_blk hr7 1).1
      have k2 : w7.cell? ⟨w.heap.size + 1, 2, none⟩ = some (.int .i64 qa) := (cell_of_blk hr7 2).1
      have k3 : w7.cell? ⟨w.heap.size + 1, 3, none⟩ = some (.int .i64 qy) := (cell_of_blk hr7 3).1
      have k4 : w7.cell? ⟨w.heap.size + 1, 4, none⟩ = some (.int .i64 qn) := (cell_of_blk hr7 4).1
      clear hr7 r0 r1 r2 r3 r4 s0 s1 s2 s3 s4 y0 y1 y2 y3 y4
      refine bodyPost_ret (v := .agg #[.slice QA ops.length qc, .int .i64 qk, .int .i64 qa, .int .i64 qy, .int .i64 qn]) (by simp [results, Try.results19, go_sem, k0, k1, k2, k3, k4]; try rfl) rfl ?_
      rw [← HPO.out]
      refine ⟨QA, qc, n, f, ?_, own_more hG7.row (by omega), hG7.gr, hG7.fo⟩
      show _ = Ending.returned (.agg #[.slice QA l.length qc, .int .i64 qk, .int .i64 qa, .int .i64 qy, .int .i64 qn])
      rw [hlen]
end Go.Proofs.Ytfadeipdepamlaa
