/- Parts of a proof, joined. No condition but those that each theorem names. -/
import Derived.WalkKit
import Derived.OpenShut
import Derived.Below
import Derived.Lib.Hide
import Derived.Laws.OwnMore
import Derived.Deep.QuietTactic
import Derived.Deep.AppendLies
import Derived.ProofKit
import Derived.SizedLaws
import Derived.Test.YtfadeipdepamlaaProg
import Derived.Handy
import Derived.Deep.RegionHeld3
import Derived.BigQuiet
import Derived.Maps.AppendAt
import Derived.Maps.RangeWalk
import Derived.Maps.OwnSet
import Derived.StillTailTactics
import Derived.Laws.CopyOwn
import Derived.Lib.BufferWrite
import Derived.OrdersHeld
import Derived.RegionTactic
import Derived.Test.YtfadeipdepamlaaSeG0e2
import Derived.Test.YtfadeipdepamlaaSeG0e4
import Derived.Test.YtfadeipdepamlaaSeG1e6
import Derived.Test.YtfadeipdepamlaaSeG0e6
import Derived.Test.YtfadeipdepamlaaSeG0e0
import Derived.Test.YtfadeipdepamlaaSeG0e1
import Derived.Test.YtfadeipdepamlaaSeIrC
import Derived.Test.YtfadeipdepamlaaSeG1e5
import Derived.Test.YtfadeipdepamlaaSeG1e10
import Derived.Test.YtfadeipdepamlaaSeG1e13
import Derived.Test.YtfadeipdepamlaaSeG0e3
import Derived.Test.YtfadeipdepamlaaSeG0e8
import Derived.Test.YtfadeipdepamlaaSeG0e13
namespace Go.Proofs.Ytfadeipdepamlaa
open Go.RowKit Go.Maps
set_option linter.unusedVariables false
def cpOp (f : Int → Option Int) (o : Opn) : Opn := ⟨o.kind, o.dst, if 0 < fSrc o.kind then cpOf f o.a else o.a, if 1 < fSrc o.kind then cpOf f o.b else o.b, if 2 < fSrc o.kind then cpOf f o.c else o.c, o.imm⟩
theorem intR_lit {n : Int} (h : IntR n) : (Lit.int .i64 n).wf = true := WalkArith.wf_i64 (by unfold IntR at h; omega)
theorem blk_far {w : World} {g : Nat} {x : Obj} (h : w.heap[g]? = some x) (q : Addr) (u : Value) (hne : q.block ≠ g) : (w.setCell q u).heap[g]? = some x := (Below.heap_setCell w q u g (fun e => hne e.symm)).trans h
def CopPost (o : Opn) (w : World) (e : Ending) (w' : World) : Prop := e = .returned (opVal o) ∧ Below w.heap.size w w'
end Go.Proofs.Ytfadeipdepamlaa
namespace Go.Proofs.Ytfadeipdepamlaa
open Go.RowKit Go.Maps
set_option linter.unusedVariables false
def upd (f : Int → Option Int) (t v : Int) (k : Int) : Option Int := if k = t then some v else f k
def cpMap (f : Int → Option Int) (o : Opn) : Int → Option Int := if fDst o.kind = true then (if o.kind = 2 ∧ o.a ≠ o.dst then upd (cpForget f o.dst) o.dst o.a else cpForget f o.dst) else f
def zBlk : Array Value := #[.slice none 0 0, .int .i64 0, .int .i64 0, .int .i64 0, .int .i64 0]
/-- A round of copies.block begins: H is the heap's size where the call began. -/
structure CpAt (w0 : World) (H : Nat) (w : World) (bc : Array Value) (ov : Value) (l : List Opn) (f : Int → Option Int) (n : Nat) : Prop where
  bX : w.heap[H]? = some (.cells bc 39 (0, 0))
  bR : w.heap[H + 1]? = some (.cells zBlk 39 (0, 0))
  mp : MapAt w (H + 1 + 1) n f
  bO : w.heap[H + 1 + 1 + 1]? = some (.cells #[ov, .int .i64 0, .int .i64 0, .int .i64 0, .int .i64 0] 39 (0, 0))
  row : w.ownsRow (H + 4) 41 6 ov l.length (opsCells l)
  bel : Below H w0 w
  siz : H + 4 ≤ w.heap.size
section
variable {w0 w w' : World} {H : Nat} {bc : Array Value} {ov : Value} {l : List Opn} {f : Int → Option Int} {n : Nat}
theorem CpAt.below (h : CpAt w0 H w bc ov l f n) (hb : Below w.heap.size w w') : CpAt w0 H w' bc ov l f n :=
  ⟨(hb.block _ (lt_of_blk h.bX)).trans h.bX, (hb.block _ (lt_of_blk h.bR)).trans h.bR, h.mp.below hb, (hb.block _ (lt_of_blk h.bO)).trans h.bO, own_below h.row hb, h.bel.trans (hb.mono (by have := h.siz; omega)), by have := h.siz; have := hb.size; omega⟩
theorem CpAt.setOther (h : CpAt w0 H w bc ov l f n) (q : Addr) (u : Value) (hq : H + 4 ≤ q.block) (ho : ov.ownBlock ≠ some q.block) : CpAt w0 H (w.setCell q u) bc ov l f n :=
  ⟨blk_far h.bX q u (by omega), blk_far h.bR q u (by omega), h.mp.setCell q u (by omega), blk_far h.bO q u (by omega),
    h.row.kept (grown_setCell w q u) (by cases hv : ov.ownBlock with
      | none => exact Or.inl rfl
      | some r => exact Or.inr (fun e => ho (hv.trans e))), h.bel.setCell (by omega) u, by have := h.siz; simp [World.setCell]; exact this⟩
theorem CpAt.map (h : CpAt w0 H w bc ov l f n) (hg : w.grownBy w' (some (H + 1 + 1))) {f' : Int → Option Int} {n' : Nat} (hm : MapAt w' (H + 1 + 1) n' f') : CpAt w0 H w' bc ov l f' n' :=
  ⟨(hg.block _ (lt_of_blk h.bX) (by simp; omega)).trans h.bX, (hg.block _ (lt_of_blk h.bR) (by simp)).trans h.bR, hm, (hg.block _ (lt_of_blk h.bO) (by simp)).trans h.bO,
    h.row.kept hg (by cases hv : ov.ownBlock with
      | none => exact Or.inl rfl
      | some r => exact Or.inr (fun e => by injection e with e; have := (h.row.lt r hv).1; omega)),
    h.bel.grown hg (by have := h.siz; omega) (fun r hr => by injection hr with hr; omega), by have := h.siz; have := hg.size; omega⟩
/-- One operation more: the append, and the store of the longer row. -/
theorem CpAt.push (h : CpAt w0 H w bc ov l f n) (o : Opn) (hn : l.length ≤ 2000000) :
    ∃ v' w3, (Builtin.append_ #[34, 34] 34 #[ov, .slice (some ⟨w.heap.size, 0, none⟩) 1 1]).run Try.prog (w.alloc (.cells #[.int .i64 o.kind, .int .i64 o.dst, .int .i64 o.a, .int .i64 o.b, .int .i64 o.c, .int .i64 o.imm] 41)) = .ok v' w3 ∧
      w3.cell? ⟨H + 1 + 1 + 1, 0, none⟩ = some ov ∧ w3.frozen? ⟨H + 1 + 1 + 1, 0, none⟩ = false ∧ CpAt w0 H (w3.setCell ⟨H + 1 + 1 + 1, 0, none⟩ v') bc v' (l ++ [o]) f n ∧
      (∀ {g x}, w.heap[g]? = some x → H + 4 ≤ g → ov.ownBlock ≠ some g → (w3.setCell ⟨H + 1 + 1 + 1, 0, none⟩ v').heap[g]? = some x) ∧ (∃ A c, v' = .slice A (l.length + 1) c) ∧ (v'.ownBlock = ov.ownBlock ∨ v'.ownBlock = some (w.heap.size + 1)) := by
  obtain ⟨v', w3, a1, a2, a3, a4⟩ := run_append_op w (H + 4) ov l h.row o hn h.siz
  have hs := h.siz
  have hold : ∀ {g x}, w.heap[g]? = some x → ov.ownBlock ≠ some g → w3.heap[g]? = some x := by
    intro g x hg hne
    have hlb := lt_of_blk hg
    exact (a3.block g (by simp; omega) (fun e => hne e.symm)).trans (((bnew w _).block g hlb).trans hg)
  have hlow : ∀ g, g < H + 4 → ov.ownBlock ≠ some g := fun g hg e => by have := (h.row.lt g e).1; omega
  have k0 := hold h.bO (hlow _ (by omega))
  have hX := hold h.bX (hlow _ (by omega))
  have hR := hold h.bR (hlow _ (by omega))
  have hM : MapAt w3 (H + 1 + 1) n f := (h.mp.below (bnew w _)).keep a3 (fun e => hlow (H + 1 + 1) (by omega) e.symm)
  have hB3 : Below H w0 w3 := (h.bel.alloc (by omega) _).grown a3 (by simp; omega) (fun r hr => by have := (h.row.lt r hr).1; omega)
  have hs3 : H + 4 ≤ w3.heap.size := by have := a3.size; simp at this; omega
  refine ⟨v', w3, a1, (cell_of_blk k0 0).1, (cell_of_blk k0 0).2, ⟨blk_far hX _ _ (by show H + 1 + 1 + 1 ≠ H; omega), blk_far hR _ _ (by show H + 1 + 1 + 1 ≠ H + 1; omega), hM.setCell _ _ (by show H + 1 + 1 + 1 ≠ H + 1 + 1; omega), blk_set k0 0 v', ?_, hB3.setCell (by show H ≤ H + 1 + 1 + 1; omega) _, by simp [World.setCell]; exact hs3⟩, ?_, ?_, a4⟩
  · exact own_setCell a2 _ _ (by show H + 1 + 1 + 1 < H + 4; omega)
  · intro g x hg hgH hne
    exact blk_far (hold hg hne) _ _ (by show H + 1 + 1 + 1 ≠ g; omega)
  · obtain ⟨A, c, e⟩ := ownN_len a2
    exact ⟨A, c, by rw [e]; simp⟩
end
end Go.Proofs.Ytfadeipdepamlaa
namespace Go.Proofs.Ytfadeipdepamlaa
open Go.RowKit
set_option linter.unusedVariables false
theorem cpMap_eq {f : Int → Option Int} {o : Opn} (h : fDst o.kind = true) : cpMap f o o.dst = if o.kind = 2 ∧ o.a ≠ o.dst then some o.a else none := by
  unfold cpMap
  rw [if_pos h]
  split
  · unfold upd; rw [if_pos rfl]
  · unfold cpForget; rw [if_pos rfl]
theorem cpMap_ne {f : Int → Option Int} {o : Opn} {t : Int} (h : fDst o.kind = true) (hne : t ≠ o.dst) : cpMap f o t = if f t = some o.dst then none else f t := by
  unfold cpMap
  rw [if_pos h]
  split
  · unfold upd; rw [if_neg hne]; unfold cpForget; rw [if_neg hne]
  · unfold cpForget; rw [if_neg hne]
theorem cpMap_no {f : Int → Option Int} {o : Opn} (h : ¬ fDst o.kind = true) : cpMap f o = f := by unfold cpMap; rw [if_neg h]
structure CpOk (p : Ir) (f : Int → Option Int) : Prop where
  tmp : ∀ t u, f t = some u → isTemp p t ∧ isTemp p u
  end_ : ∀ t u, f t = some u → f u = none
theorem CpOk.map {p : Ir} {f : Int → Option Int} (h : CpOk p f) {q : Opn} (hd : fDst q.kind = true → isTemp p q.dst) (ha : q.kind = 2 → isTemp p q.a ∧ f q.a = none) : CpOk p (cpMap f q) := by
  by_cases hm : fDst q.kind = true
  · refine ⟨fun t u e => ?_, fun t u e => ?_⟩
    · by_cases ht : t = q.dst
      · subst ht
        rw [cpMap_eq hm] at e
        split at e
        · rename_i hc
          injection e with e
          subst e
          exact ⟨hd hm, (ha hc.1).1⟩
        · cases e
      · rw [cpMap_ne hm ht] at e
        split at e
        · cases e
        · exact h.tmp t u e
    · by_cases ht : t = q.dst
      · subst ht
        rw [cpMap_eq hm] at e
        split at e
        · rename_i hc
          injection e with e
          subst e
          rw [cpMap_ne hm hc.2, (ha hc.1).2]
          simp
        · cases e
      · rw [cpMap_ne hm ht] at e
        split at e
        · cases e
        · rename_i hne
          have hu : u ≠ q.dst := fun hu => hne (by rw [e, hu])
          rw [cpMap_ne hm hu, h.end_ t u e]
          simp
  · rw [cpMap_no hm]; exact h
theorem cpOf_none {f : Int → Option Int} (h : ∀ t u, f t = some u → f u = none) (t : Int) : f (cpOf f t) = none := by
  unfold cpOf
  cases e : f t with
  | none => exact e
  | some u => exact h t u e
theorem CpOk.of {p : Ir} {f : Int → Option Int} (h : CpOk p f) {t : Int} (ht : isTemp p t) : isTemp p (cpOf f t) := by
  unfold cpOf
  cases e : f t with
  | none => exact ht
  | some u => exact (h.tmp t u e).2
theorem CpOk.op {p : Ir} {f : Int → Option Int} (h : CpOk p f) {o : Opn} (ho : opP p o) : opP p (cpOp f o) := by
  obtain ⟨o1, o2, o4, o5, o6, o7, o8⟩ := ho
  have hf : ∀ (n : Nat) (t : Int), fieldP p (decide (n < fSrc o.kind)) t → fieldP p (decide (n < fSrc o.kind)) (if n < fSrc o.kind then cpOf f t else t) := by
    intro n t ht
    by_cases hn : n < fSrc o.kind
    · rw [if_pos hn]
      rw [decide_eq_true hn] at ht ⊢
      exact h.of ht
    · rw [if_neg hn]; exact ht
  exact ⟨o1, o2, o4, hf 0 _ o5, hf 1 _ o6, hf 2 _ o7, o8⟩
theorem opP_dst {p : Ir} {o : Opn} (ho : opP p o) (h : fDst o.kind = true) : isTemp p o.dst := by
  have h3 := ho.2.2.1
  rw [h] at h3
  exact h3
theorem opP_a {p : Ir} {o : Opn} (ho : opP p o) (h : o.kind = 2) : isTemp p o.a := by
  have h3 := ho.2.2.2.1
  rw [h] at h3
  exact h3
theorem cpOp_a2 (f : Int → Option Int) {o : Opn} (h : o.kind = 2) : (cpOp f o).a = cpOf f o.a := by
  unfold cpOp
  simp only
  rw [h]; rfl
theorem CpOk.step {p : Ir} {f : Int → Option Int} (h : CpOk p f) {o : Opn} (ho : opP p o) : CpOk p (cpMap f (cpOp f o)) := by
  have hq := h.op ho
  refine h.map (fun hd => opP_dst hq hd) (fun hk => ⟨opP_a hq hk, ?_⟩)
  have hk : o.kind = 2 := hk
  rw [cpOp_a2 f hk]
  exact cpOf_none h.end_ _
/-- What stands for another one holds the same. -/
def CpSt (f : Int → Option Int) (ts : List Int) : Prop := ∀ t u, f t = some u → rdT ts t = rdT ts u
theorem CpSt.of {f : Int → Option Int} {ts : List Int} (h : CpSt f ts) (t : Int) : rdT ts (cpOf f t) = rdT ts t := by
  unfold cpOf
  cases e : f t with
  | none => rfl
  | some u => exact (h t u e).symm
theorem step_ts {p : Ir} {s s' : St} {o : Opn} (h : stepP p s o = some s') (hk : fOk o.kind = true) :
    (fDst o.kind = true → ∃ v, s'.ts = s.ts.set o.dst.toNat v ∧ (o.kind = 2 → v = ((wd (rdT s.ts o.a) : Nat) : Int)) ∧ (∀ n, pureP s.ts o = some n → v = (n : Int))) ∧ (¬ fDst o.kind = true → s'.ts = s.ts) := by
  unfold stepP at h
  cases hp : pureP s.ts o with
  | some v =>
    rw [hp] at h
    injection h with h
    subst h
    refine ⟨fun _ => ⟨v, rfl, fun h2 => ?_, fun n e => by injection e with e; rw [e]⟩, fun hd => ?_⟩
    · unfold pureP valP at hp
      rw [if_neg (by omega), if_pos h2] at hp
      injection hp with hp
      rw [← hp]
      unfold srcP
      rw [h2]; rfl
    · exfalso
      have hn : o.kind = 19 := by
        unfold fOk at hk
        unfold fDst at hd
        simp only [decide_eq_true_eq] at hk hd
        omega
      unfold pureP valP at hp
      rw [hn] at hp
      simp at hp
  | none =>
    rw [hp] at h
    simp only at h
    split at h
    · cases h
    · split at h
      · rename_i hk18
        injection h with h
        subst h
        refine ⟨fun _ => ⟨_, rfl, fun h2 => by omega, fun n e => by (cases e)⟩, fun hd => ?_⟩
        exfalso; apply hd; unfold fDst; rw [decide_eq_true_eq]; omega
      · rename_i hk18
        injection h with h
        subst h
        refine ⟨fun hd => ?_, fun _ => rfl⟩
        exfalso
        rcases valP_none hp hk with e | e
        · exact hk18 e
        · unfold fDst at hd; rw [decide_eq_true_eq] at hd; omega
theorem rdT_set {p : Ir} {ts : List Int} (hl : ts.length = p.temps.toNat) {d t : Int} (hd : isTemp p d) (ht : 0 ≤ t) (v : Int) : rdT (ts.set d.toNat v) t = if t = d then v else rdT ts t := by
  obtain ⟨d0, d1⟩ := hd
  unfold rdT
  by_cases e : t = d
  · subst e; rw [if_pos rfl, getD_set_self _ _ _ _ (by omega)]
  · rw [if_neg e, getD_set_ne _ _ _ _ _ (by omega)]
theorem wd_rdT {ts : List Int} (h : ∀ x ∈ ts, wordR x) (t : Int) : ((wd (rdT ts t) : Nat) : Int) = rdT ts t := by
  have hw := rdT_word h t
  rw [wd_cast]
  unfold wordR at hw
  omega
theorem CpSt.step {p : Ir} {f : Int → Option Int} (hf : CpOk p f) {s s' : St} (h : CpSt f s.ts) (hfit : Fit p s) {q : Opn} (hq : opP p q) (hs : stepP p s q = some s') : CpSt (cpMap f q) s'.ts := by
  obtain ⟨h1, h2⟩ := step_ts hs hq.1
  by_cases hd : fDst q.kind = true
  · obtain ⟨v, e, hv, _⟩ := h1 hd
    have hdt := opP_dst hq hd
    rw [e]
    intro t u hu
    by_cases ht : t = q.dst
    · subst ht
      rw [cpMap_eq hd] at hu
      split at hu
      · rename_i hc
        injection hu with hu
        subst hu
        have ha := opP_a hq hc.1
        rw [rdT_set hfit.tl hdt hdt.1, if_pos rfl, rdT_set hfit.tl hdt ha.1, if_neg hc.2, hv hc.1, wd_rdT hfit.tw]
      · cases hu
    · rw [cpMap_ne hd ht] at hu
      split at hu
      · cases hu
      · rename_i hne
        have hud : u ≠ q.dst := fun e => hne (by rw [hu, e])
        obtain ⟨t1, t2⟩ := hf.tmp t u hu
        rw [rdT_set hfit.tl hdt t1.1, if_neg ht, rdT_set hfit.tl hdt t2.1, if_neg hud]
        exact h t u hu
  · rw [h2 hd, cpMap_no hd]; exact h
/-- What is asked of an operation, of an end, speaks of temps, arrays, and how many blocks there are. -/
theorem opP_like {p q : Ir} (hT : q.temps = p.temps) (ha : q.arrays = p.arrays) {o : Opn} (ho : opP p o) : opP q o := by
  unfold opP fieldP isTemp at *
  rw [hT, ha]; exact ho
theorem trmP_like {p q : Ir} (hT : q.temps = p.temps) (hl : q.blocks.length = p.blocks.length) {t : Trm} (ht : trmP p t) : trmP q t := by
  unfold trmP isTemp labelP at *
  rw [hT, hl]; exact ht
theorem opsSum_map {g : Blk → Blk} (hg : ∀ b, (g b).ops.length = b.ops.length) : ∀ l : List Blk, opsSum (l.map g) = opsSum l
  | [] => rfl
  | b :: l => by rw [List.map_cons, opsSum, opsSum, opsSum_map hg l, hg]
end Go.Proofs.Ytfadeipdepamlaa
