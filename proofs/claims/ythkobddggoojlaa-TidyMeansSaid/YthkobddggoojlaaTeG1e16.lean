/- Parts of a proof, joined. No condition but those that each theorem names. -/
import Derived.WalkKit
import Derived.OpenShut
import Derived.Below
import Derived.Lib.Hide
import Derived.Laws.OwnMore
import Derived.Deep.QuietTactic
import Derived.Deep.AppendLies
import Derived.ProofKit
import Derived.SizedLaws
import Derived.Test.YthkobddggoojlaaProg
import Derived.Handy
import Derived.Deep.RegionHeld3
import Derived.BigQuiet
import Derived.Maps.AppendAt
import Derived.Maps.RangeWalk
import Derived.Maps.OwnSet
import Derived.StillTailTactics
import Derived.Laws.CopyOwn
import Derived.Lib.BufferWrite
import Derived.OrdersHeld
import Derived.RegionTactic
import Derived.Test.YthkobddggoojlaaTeG0e2
import Derived.Test.YthkobddggoojlaaTeG1e7
import Derived.Test.YthkobddggoojlaaTeG0e7
import Derived.Test.YthkobddggoojlaaTeG0e0
import Derived.Test.YthkobddggoojlaaTeG0e1
import Derived.Test.YthkobddggoojlaaTeG0e4
import Derived.Test.YthkobddggoojlaaTeIrC
import Derived.Test.YthkobddggoojlaaTeG1e6
import Derived.Test.YthkobddggoojlaaTeG1e12
import Derived.Test.YthkobddggoojlaaTeG1e15
import Derived.Test.YthkobddggoojlaaTeG0e3
import Derived.Test.YthkobddggoojlaaTeG0e10
import Derived.Test.YthkobddggoojlaaTeG0e15
import Derived.Test.YthkobddggoojlaaTeG0e6
namespace Go.Proofs.Ythkobddggoojlaa
open Go.RowKit Go.Maps
set_option linter.unusedVariables false
def cpOp (f : Int → Option Int) (o : Opn) : Opn := ⟨o.kind, o.dst, if 0 < fSrc o.kind then cpOf f o.a else o.a, if 1 < fSrc o.kind then cpOf f o.b else o.b, if 2 < fSrc o.kind then cpOf f o.c else o.c, o.imm⟩
theorem blk_far {w : World} {g : Nat} {x : Obj} (h : w.heap[g]? = some x) (q : Addr) (u : Value) (hne : q.block ≠ g) : (w.setCell q u).heap[g]? = some x := (Below.heap_setCell w q u g (fun e => hne e.symm)).trans h
end Go.Proofs.Ythkobddggoojlaa
namespace Go.Proofs.Ythkobddggoojlaa
open Go.RowKit Go.Maps
set_option linter.unusedVariables false
def upd (f : Int → Option Int) (t v : Int) (k : Int) : Option Int := if k = t then some v else f k
def cpMap (f : Int → Option Int) (o : Opn) : Int → Option Int := if fDst o.kind = true then (if o.kind = 2 ∧ o.a ≠ o.dst then upd (cpForget f o.dst) o.dst o.a else cpForget f o.dst) else f
def zBlk : Array Value := #[.slice none 0 0, .int .i64 0, .int .i64 0, .int .i64 0, .int .i64 0]
/-- A round of copies.block begins: H is the heap's size where the call began. -/
structure CpAt (w0 : World) (H : Nat) (w : World) (bc : Array Value) (ov : Value) (l : List Opn) (f : Int → Option Int) (n : Nat) : Prop where
  bX : w.heap[H]? = some (.cells bc 40 (0, 0))
  bR : w.heap[H + 1]? = some (.cells zBlk 40 (0, 0))
  mp : MapAt w (H + 1 + 1) n f
  bO : w.heap[H + 1 + 1 + 1]? = some (.cells #[ov, .int .i64 0, .int .i64 0, .int .i64 0, .int .i64 0] 40 (0, 0))
  row : w.ownsRow (H + 4) 46 6 ov l.length (opsCells l)
  bel : Below H w0 w
  siz : H + 4 ≤ w.heap.size
section
variable {w0 w w' : World} {H : Nat} {bc : Array Value} {ov : Value} {l : List Opn} {f : Int → Option Int} {n : Nat}
theorem CpAt.below (h : CpAt w0 H w bc ov l f n) (hb : Below w.heap.size w w') : CpAt w0 H w' bc ov l f n :=
  ⟨(hb.block _ (lt_of_blk h.bX)).trans h.bX, (hb.block _ (lt_of_blk h.bR)).trans h.bR, h.mp.below hb, (hb.block _ (lt_of_blk h.bO)).trans h.bO, own_below h.row hb, h.bel.trans (hb.mono (by have := h.siz; omega)), by have := h.siz; have := hb.size; omega⟩
theorem CpAt.setOther (h : CpAt w0 H w bc ov l f n) (q : Addr) (u : Value) (hq : H + 4 ≤ q.block) (ho : ov.ownBlock ≠ some q.block) : CpAt w0 H (w.setCell q u) bc ov l f n :=
  ⟨blk_far h.bX q u (by omega), blk_far h.bR q u (by omega), h.mp.setCell q u (by omega), blk_far h.bO q u (by omega),
    h.row.kept (grown_setCell w q u) (by cases hv : ov.ownBlock with
      | none => exact Or.inl rfl
      | some r => exact Or.inr (fun e => ho (hv.trans e))), h.bel.setCell (by omega) u, by have := h.siz; simp [World.setCell]; exact this⟩
theorem CpAt.map (h : CpAt w0 H w bc ov l f n) (hg : w.grownBy w' (some (H + 1 + 1))) {f' : Int → Option Int} {n' : Nat} (hm : MapAt w' (H + 1 + 1) n' f') : CpAt w0 H w' bc ov l f' n' :=
  ⟨(hg.block _ (lt_of_blk h.bX) (by simp; omega)).trans h.bX, (hg.block _ (lt_of_blk h.bR) (by simp)).trans h.bR, hm, (hg.block _ (lt_of_blk h.bO) (by simp)).trans h.bO,
    h.row.kept hg (by cases hv : ov.ownBlock with
      | none => exact Or.inl rfl
      | some r => exact Or.inr (fun e => by injection e with e; have := (h.row.lt r hv).1; omega)),
    h.bel.grown hg (by have := h.siz; omega) (fun r hr => by injection hr with hr; omega), by have := h.siz; have := hg.size; omega⟩
/-- One operation more: the append, and the store of the longer row. -/
theorem CpAt.push (h : CpAt w0 H w bc ov l f n) (o : Opn) (hn : l.length ≤ 2000000) :
    ∃ v' w3, (Builtin.append_ #[36, 36] 36 #[ov, .slice (some ⟨w.heap.size, 0, none⟩) 1 1]).run Try.prog (w.alloc (.cells #[.int .i64 o.kind, .int .i64 o.dst, .int .i64 o.a, .int .i64 o.b, .int .i64 o.c, .int .i64 o.imm] 46)) = .ok v' w3 ∧
      w3.cell? ⟨H + 1 + 1 + 1, 0, none⟩ = some ov ∧ w3.frozen? ⟨H + 1 + 1 + 1, 0, none⟩ = false ∧ CpAt w0 H (w3.setCell ⟨H + 1 + 1 + 1, 0, none⟩ v') bc v' (l ++ [o]) f n ∧
      (∀ {g x}, w.heap[g]? = some x → H + 4 ≤ g → ov.ownBlock ≠ some g → (w3.setCell ⟨H + 1 + 1 + 1, 0, none⟩ v').heap[g]? = some x) ∧ (∃ A c, v' = .slice A (l.length + 1) c) ∧ (v'.ownBlock = ov.ownBlock ∨ v'.ownBlock = some (w.heap.size + 1)) := by
  obtain ⟨v', w3, a1, a2, a3, a4⟩ := run_append_op w (H + 4) ov l h.row o hn h.siz
  have hs := h.siz
  have hold : ∀ {g x}, w.heap[g]? = some x → ov.ownBlock ≠ some g → w3.heap[g]? = some x := by
    intro g x hg hne
    have hlb := lt_of_blk hg
    exact (a3.block g (by simp; omega) (fun e => hne e.symm)).trans (((bnew w _).block g hlb).trans hg)
  have hlow : ∀ g, g < H + 4 → ov.ownBlock ≠ some g := fun g hg e => by have := (h.row.lt g e).1; omega
  have k0 := hold h.bO (hlow _ (by omega))
  have hX := hold h.bX (hlow _ (by omega))
  have hR := hold h.bR (hlow _ (by omega))
  have hM : MapAt w3 (H + 1 + 1) n f := (h.mp.below (bnew w _)).keep a3 (fun e => hlow (H + 1 + 1) (by omega) e.symm)
  have hB3 : Below H w0 w3 := (h.bel.alloc (by omega) _).grown a3 (by simp; omega) (fun r hr => by have := (h.row.lt r hr).1; omega)
  have hs3 : H + 4 ≤ w3.heap.size := by have := a3.size; simp at this; omega
  refine ⟨v', w3, a1, (cell_of_blk k0 0).1, (cell_of_blk k0 0).2, ⟨blk_far hX _ _ (by show H + 1 + 1 + 1 ≠ H; omega), blk_far hR _ _ (by show H + 1 + 1 + 1 ≠ H + 1; omega), hM.setCell _ _ (by show H + 1 + 1 + 1 ≠ H + 1 + 1; omega), blk_set k0 0 v', ?_, hB3.setCell (by show H ≤ H + 1 + 1 + 1; omega) _, by simp [World.setCell]; exact hs3⟩, ?_, ?_, a4⟩
  · exact own_setCell a2 _ _ (by show H + 1 + 1 + 1 < H + 4; omega)
  · intro g x hg hgH hne
    exact blk_far (hold hg hne) _ _ (by show H + 1 + 1 + 1 ≠ g; omega)
  · obtain ⟨A, c, e⟩ := ownN_len a2
    exact ⟨A, c, by rw [e]; simp⟩
end
end Go.Proofs.Ythkobddggoojlaa
namespace Go.Proofs.Ythkobddggoojlaa
open Go.RowKit
set_option linter.unusedVariables false
theorem cpMap_eq {f : Int → Option Int} {o : Opn} (h : fDst o.kind = true) : cpMap f o o.dst = if o.kind = 2 ∧ o.a ≠ o.dst then some o.a else none := by
  unfold cpMap
  rw [if_pos h]
  split
  · unfold upd; rw [if_pos rfl]
  · unfold cpForget; rw [if_pos rfl]
theorem cpMap_ne {f : Int → Option Int} {o : Opn} {t : Int} (h : fDst o.kind = true) (hne : t ≠ o.dst) : cpMap f o t = if f t = some o.dst then none else f t := by
  unfold cpMap
  rw [if_pos h]
  split
  · unfold upd; rw [if_neg hne]; unfold cpForget; rw [if_neg hne]
  · unfold cpForget; rw [if_neg hne]
theorem cpMap_no {f : Int → Option Int} {o : Opn} (h : ¬ fDst o.kind = true) : cpMap f o = f := by unfold cpMap; rw [if_neg h]
structure CpOk (p : Ir) (f : Int → Option Int) : Prop where
  tmp : ∀ t u, f t = some u → isTemp p t ∧ isTemp p u
  end_ : ∀ t u, f t = some u → f u = none
theorem CpOk.map {p : Ir} {f : Int → Option Int} (h : CpOk p f) {q : Opn} (hd : fDst q.kind = true → isTemp p q.dst) (ha : q.kind = 2 → isTemp p q.a ∧ f q.a = none) : CpOk p (cpMap f q) := by
  by_cases hm : fDst q.kind = true
  · refine ⟨fun t u e => ?_, fun t u e => ?_⟩
    · by_cases ht : t = q.dst
      · subst ht
        rw [cpMap_eq hm] at e
        split at e
        · rename_i hc
          injection e with e
          subst e
          exact ⟨hd hm, (ha hc.1).1⟩
        · cases e
      · rw [cpMap_ne hm ht] at e
        split at e
        · cases e
        · exact h.tmp t u e
    · by_cases ht : t = q.dst
      · subst ht
        rw [cpMap_eq hm] at e
        split at e
        · rename_i hc
          injection e with e
          subst e
          rw [cpMap_ne hm hc.2, (ha hc.1).2]
          simp
        · cases e
      · rw [cpMap_ne hm ht] at e
        split at e
        · cases e
        · rename_i hne
          have hu : u ≠ q.dst := fun hu => hne (by rw [e, hu])
          rw [cpMap_ne hm hu, h.end_ t u e]
          simp
  · rw [cpMap_no hm]; exact h
theorem cpOf_none {f : Int → Option Int} (h : ∀ t u, f t = some u → f u = none) (t : Int) : f (cpOf f t) = none := by
  unfold cpOf
  cases e : f t with
  | none => exact e
  | some u => exact h t u e
theorem CpOk.of {p : Ir} {f : Int → Option Int} (h : CpOk p f) {t : Int} (ht : isTemp p t) : isTemp p (cpOf f t) := by
  unfold cpOf
  cases e : f t with
  | none => exact ht
  | some u => exact (h.tmp t u e).2
theorem CpOk.op {p : Ir} {f : Int → Option Int} (h : CpOk p f) {o : Opn} (ho : opP p o) : opP p (cpOp f o) := by
  obtain ⟨o1, o2, o4, o5, o6, o7, o8⟩ := ho
  have hf : ∀ (n : Nat) (t : Int), fieldP p (decide (n < fSrc o.kind)) t → fieldP p (decide (n < fSrc o.kind)) (if n < fSrc o.kind then cpOf f t else t) := by
    intro n t ht
    by_cases hn : n < fSrc o.kind
    · rw [if_pos hn]
      rw [decide_eq_true hn] at ht ⊢
      exact h.of ht
    · rw [if_neg hn]; exact ht
  exact ⟨o1, o2, o4, hf 0 _ o5, hf 1 _ o6, hf 2 _ o7, o8⟩
theorem opP_dst {p : Ir} {o : Opn} (ho : opP p o) (h : fDst o.kind = true) : isTemp p o.dst := by
  have h3 := ho.2.2.1
  rw [h] at h3
  exact h3
theorem opP_a {p : Ir} {o : Opn} (ho : opP p o) (h : o.kind = 2) : isTemp p o.a := by
  have h3 := ho.2.2.2.1
  rw [h] at h3
  exact h3
theorem cpOp_a2 (f : Int → Option Int) {o : Opn} (h : o.kind = 2) : (cpOp f o).a = cpOf f o.a := by
  unfold cpOp
  simp only
  rw [h]; rfl
theorem CpOk.step {p : Ir} {f : Int → Option Int} (h : CpOk p f) {o : Opn} (ho : opP p o) : CpOk p (cpMap f (cpOp f o)) := by
  have hq := h.op ho
  refine h.map (fun hd => opP_dst hq hd) (fun hk => ⟨opP_a hq hk, ?_⟩)
  have hk : o.kind = 2 := hk
  rw [cpOp_a2 f hk]
  exact cpOf_none h.end_ _
/-- What stands for another one holds the same. -/
def CpSt (f : Int → Option Int) (ts : List Int) : Prop := ∀ t u, f t = some u → rdT ts t = rdT ts u
theorem CpSt.of {f : Int → Option Int} {ts : List Int} (h : CpSt f ts) (t : Int) : rdT ts (cpOf f t) = rdT ts t := by
  unfold cpOf
  cases e : f t with
  | none => rfl
  | some u => exact (h t u e).symm
theorem CpSt.src {f : Int → Option Int} {ts : List Int} (h : CpSt f ts) (o : Opn) (j : Nat) (t : Int) : srcP ts (cpOp f o) j (if j < fSrc o.kind then cpOf f t else t) = srcP ts o j t := by
  unfold srcP
  show (if j < fSrc o.kind then rdT ts (if j < fSrc o.kind then cpOf f t else t) else 0) = _
  by_cases hj : j < fSrc o.kind
  · rw [if_pos hj, if_pos hj, if_pos hj, h.of]
  · rw [if_neg hj, if_neg hj]
theorem step_ts {p : Ir} {s s' : St} {o : Opn} (h : stepP p s o = some s') (hk : fOk o.kind = true) :
    (fDst o.kind = true → ∃ v, s'.ts = s.ts.set o.dst.toNat v ∧ (o.kind = 2 → v = ((wd (rdT s.ts o.a) : Nat) : Int)) ∧ (∀ n, pureP s.ts o = some n → v = (n : Int))) ∧ (¬ fDst o.kind = true → s'.ts = s.ts) := by
  unfold stepP at h
  cases hp : pureP s.ts o with
  | some v =>
    rw [hp] at h
    injection h with h
    subst h
    refine ⟨fun _ => ⟨v, rfl, fun h2 => ?_, fun n e => by injection e with e; rw [e]⟩, fun hd => ?_⟩
    · unfold pureP valP at hp
      rw [if_neg (by omega), if_pos h2] at hp
      injection hp with hp
      rw [← hp]
      unfold srcP
      rw [h2]; rfl
    · exfalso
      have hn : o.kind = 19 := by
        unfold fOk at hk
        unfold fDst at hd
        simp only [decide_eq_true_eq] at hk hd
        omega
      unfold pureP valP at hp
      rw [hn] at hp
      simp at hp
  | none =>
    rw [hp] at h
    simp only at h
    split at h
    · cases h
    · split at h
      · rename_i hk18
        injection h with h
        subst h
        refine ⟨fun _ => ⟨_, rfl, fun h2 => by omega, fun n e => by (cases e)⟩, fun hd => ?_⟩
        exfalso; apply hd; unfold fDst; rw [decide_eq_true_eq]; omega
      · rename_i hk18
        injection h with h
        subst h
        refine ⟨fun hd => ?_, fun _ => rfl⟩
        exfalso
        rcases valP_none hp hk with e | e
        · exact hk18 e
        · unfold fDst at hd; rw [decide_eq_true_eq] at hd; omega
theorem rdT_set {p : Ir} {ts : List Int} (hl : ts.length = p.temps.toNat) {d t : Int} (hd : isTemp p d) (ht : 0 ≤ t) (v : Int) : rdT (ts.set d.toNat v) t = if t = d then v else rdT ts t := by
  obtain ⟨d0, d1⟩ := hd
  unfold rdT
  by_cases e : t = d
  · subst e; rw [if_pos rfl, getD_set_self _ _ _ _ (by omega)]
  · rw [if_neg e, getD_set_ne _ _ _ _ _ (by omega)]
theorem wd_rdT {ts : List Int} (h : ∀ x ∈ ts, wordR x) (t : Int) : ((wd (rdT ts t) : Nat) : Int) = rdT ts t := by
  have hw := rdT_word h t
  rw [wd_cast]
  unfold wordR at hw
  omega
theorem CpSt.step {p : Ir} {f : Int → Option Int} (hf : CpOk p f) {s s' : St} (h : CpSt f s.ts) (hfit : Fit p s) {q : Opn} (hq : opP p q) (hs : stepP p s q = some s') : CpSt (cpMap f q) s'.ts := by
  obtain ⟨h1, h2⟩ := step_ts hs hq.1
  by_cases hd : fDst q.kind = true
  · obtain ⟨v, e, hv, _⟩ := h1 hd
    have hdt := opP_dst hq hd
    rw [e]
    intro t u hu
    by_cases ht : t = q.dst
    · subst ht
      rw [cpMap_eq hd] at hu
      split at hu
      · rename_i hc
        injection hu with hu
        subst hu
        have ha := opP_a hq hc.1
        rw [rdT_set hfit.tl hdt hdt.1, if_pos rfl, rdT_set hfit.tl hdt ha.1, if_neg hc.2, hv hc.1, wd_rdT hfit.tw]
      · cases hu
    · rw [cpMap_ne hd ht] at hu
      split at hu
      · cases hu
      · rename_i hne
        have hud : u ≠ q.dst := fun e => hne (by rw [hu, e])
        obtain ⟨t1, t2⟩ := hf.tmp t u hu
        rw [rdT_set hfit.tl hdt t1.1, if_neg ht, rdT_set hfit.tl hdt t2.1, if_neg hud]
        exact h t u hu
  · rw [h2 hd, cpMap_no hd]; exact h
/-- What is asked of an operation, of an end, speaks of temps, arrays, and how many blocks there are. -/
theorem opP_like {p q : Ir} (hT : q.temps = p.temps) (ha : q.arrays = p.arrays) {o : Opn} (ho : opP p o) : opP q o := by
  unfold opP fieldP isTemp at *
  rw [hT, ha]; exact ho
end Go.Proofs.Ythkobddggoojlaa
namespace Go.Proofs.Ythkobddggoojlaa
open Go.RowKit
set_option linter.unusedVariables false
theorem trmP_tdOk {p : Ir} {t : Trm} (h : trmP p t) : tdOkT p.blocks.length t := by
  rcases h with ⟨h1, _, _, h2⟩ | ⟨h1, _, h2, h3⟩ | ⟨h1, _⟩
  · exact Or.inl ⟨h1, h2⟩
  · exact Or.inr (Or.inl ⟨h1, h2, h3⟩)
  · exact Or.inr (Or.inr h1)
theorem ir_tdOk {p : Ir} (he : irErr p = 0) : TdOk p.blocks ∧ 0 < p.blocks.length := by
  obtain ⟨_, ⟨_, _, _, h4⟩, _, h6⟩ := irErr_ok he
  exact ⟨fun b hb => trmP_tdOk (h6 b hb).2, List.length_pos_iff.2 h4⟩
section
variable {l : List Blk} {s : List Bool}
theorem td_inv (hl : TdOk l) (hn : 0 < l.length) (hs : TdIn l s) : TdInv (tdCnt l s) l s := ⟨hs.1, hs.zero hn, hl, hs.closed hl hn, fun _ _ => rfl⟩
theorem tdCan_put {cnt : Int → Nat} {k j : Nat} (hk : k < l.length) (hj : j ≠ k) : tdCan cnt (tdPut l k) j = tdCan cnt l j := by
  unfold tdCan tdTo
  rw [tdPut_at hk, if_neg hj]
/-- Behind all that may be put behind others, the blocks are tidy. -/
theorem td_end (hl : TdOk l) (hn : 0 < l.length) (hs : TdIn (tdStr l) s) :
    TdEnd (tdCnt (tdStr l) s) (tdJoinTo (tdCnt (tdStr l) s) (tdStr l, s) l.length).1 (tdJoinTo (tdCnt (tdStr l) s) (tdStr l, s) l.length).2 ∧ (tdJoinTo (tdCnt (tdStr l) s) (tdStr l, s) l.length).1.length = l.length := by
  have hi := td_inv (tdStr_ok hl) (by rw [tdStr_len]; exact hn) hs
  have h := tdJoin_all (cnt := tdCnt (tdStr l) s) (fun m z => z.1.length = l.length ∧ TdGood z.1 z.2 ∧ (∀ i, z.2.getD i false = true → TdReach z.1 i) ∧ ∀ j, j < m → z.2.getD j false = true → tdCan (tdCnt (tdStr l) s) z.1 j = false) (tdStr l) s hi
    ⟨tdStr_len l, tdStr_good hl s (by rw [hs.1, tdStr_len]), fun i hi => (hs.2 i (by have := flag_lt hi; rw [hs.1] at this; exact this)).1 hi, fun j hj => by omega⟩
    (fun m z ⟨h1, h2, h3, h4⟩ h5 => ⟨h1, h2, h3, fun j hj hjs => by
      by_cases e : j = m
      · rw [e, h5] at hjs; cases hjs
      · exact h4 j (by omega) hjs⟩)
    (fun m l' s' hi' hm hc ⟨h1, h2, h3, h4⟩ => by
      refine ⟨by rw [tdPut_len]; exact h1, TdGood.put hi' h2 hm hc, TdReach.put hi' h3 hm hc, fun j hj hjs => ?_⟩
      obtain ⟨c, e, _, _, hcl, _, _⟩ := hi'.only hm hc
      rw [e, Int.toNat_natCast] at hjs
      rw [tdCan_put (hi'.lt hm) (by omega)]
      exact h4 j hj ((flag_set (by rw [hi'.len]; exact hcl)).1 hjs).2)
    (fun m l' s' hi' hm hc ⟨h1, h2, h3, h4⟩ => ⟨h1, h2, h3, fun j hj hjs => by
      by_cases e : j = m
      · rw [e]; exact hc
      · exact h4 j (by omega) hjs⟩) l.length
  obtain ⟨h0, h1, h2, h3, h4⟩ := h
  exact ⟨⟨h0, h2, h3, fun i hi => h4 i (by have := h0.lt hi; rw [h1] at this; exact this) hi⟩, h1⟩
end
/-- A tidied program is tidied to itself. -/
theorem tdIr_blocks {p : Ir} (he : irErr p = 0) {s : List Bool} (hs : TdIn (tdStr p.blocks) s) : (tdIr p s).blocks = tdQ (tdZ p s).1 (tdZ p s).2 ∧ TdEnd (tdCnt (tdStr p.blocks) s) (tdZ p s).1 (tdZ p s).2 ∧ (tdZ p s).1.length = p.blocks.length := by
  obtain ⟨hl, hn⟩ := ir_tdOk he
  obtain ⟨h1, h2⟩ := td_end hl hn hs
  refine ⟨?_, h1, h2⟩
  show tdOut _ _ p.blocks.length = tdOut _ _ _
  rw [show (tdZ p s).1.length = p.blocks.length from h2]
theorem tdIr_idem {p : Ir} (he : irErr p = 0) {s : List Bool} (hs : TdIn (tdStr p.blocks) s) :
    TdIn (tdStr (tdIr p s).blocks) (List.replicate (tdIr p s).blocks.length true) ∧ tdIr (tdIr p s) (List.replicate (tdIr p s).blocks.length true) = tdIr p s := by
  obtain ⟨hb, h, _⟩ := tdIr_blocks he hs
  rw [hb, h.qstr, h.inv.qlen]
  refine ⟨h.qin, ?_⟩
  have hz : tdZ (tdIr p s) (List.replicate (tdTrues (tdZ p s).2) true) = (tdQ (tdZ p s).1 (tdZ p s).2, List.replicate (tdTrues (tdZ p s).2) true) := by
    unfold tdZ
    rw [show (tdIr p s).blocks = _ from hb, h.qstr]
    exact tdJoin_none h.qnone _
  show (⟨_, _, tdOut (tdZ (tdIr p s) _).1 (tdZ (tdIr p s) _).2 (tdIr p s).blocks.length, _, _⟩ : Ir) = _
  rw [hz, hb, h.inv.qlen]
  have h2 := tdOut_rep h.inv.qok (tdTrues (tdZ p s).2) (by rw [h.inv.qlen]; exact Nat.le_refl _)
  rw [h.inv.qlen] at h2
  rw [h2, List.take_of_length_le (by rw [h.inv.qlen]; exact Nat.le_refl _)]
  have e : tdIr p s = ⟨p.temps, p.arrays, (tdIr p s).blocks, p.inp, p.out⟩ := rfl
  rw [e, hb]
/-- Sums of operations. -/
theorem opsSum_tdSum (l : List Blk) : ∀ m, m ≤ l.length → tdSum (fun i => (l.getD i blkNone).ops.length) m = opsSum (l.take m)
  | 0, _ => by simp [tdSum, opsSum]
  | m + 1, h => by
    rw [opsSum_step l m (by omega), ← opsSum_tdSum l m (by omega)]; rfl
theorem tdSum_mono {f g : Nat → Nat} : ∀ n, (∀ i, i < n → f i ≤ g i) → tdSum f n ≤ tdSum g n
  | 0, _ => Nat.le_refl _
  | n + 1, h => by
    have := tdSum_mono n (fun i hi => h i (by omega))
    have h2 := h n (by omega)
    show tdSum f n + f n ≤ tdSum g n + g n
    omega
def tdOps (l : List Blk) (s : List Bool) (i : Nat) : Nat := if s.getD i false = true then (l.getD i blkNone).ops.length else 0
theorem opsSum_out (l : List Blk) (s : List Bool) : ∀ m, opsSum (tdOut l s m) = tdSum (tdOps l s) m
  | 0 => rfl
  | m + 1 => by
    show opsSum (tdOut l s m ++ _) = tdSum (tdOps l s) m + tdOps l s m
    rw [opsSum_append, opsSum_out l s m]
    unfold tdOps
    split
    · simp [opsSum]
    · simp [opsSum]
theorem tdNam_P {p : Ir} {g : Int → Int} (hg : ∀ k, labelP p k → labelP p (g k)) {t : Trm} (h : trmP p t) : trmP p (tdNam g t) := by
  unfold tdNam
  rcases h with ⟨h1, h2, h3, h4⟩ | ⟨h1, h2, h3, h4⟩ | ⟨h1, h2⟩
  · rw [if_pos h1]; exact Or.inl ⟨rfl, h2, h3, hg _ h4⟩
  · rw [if_neg (by omega), if_pos h1]; exact Or.inr (Or.inl ⟨rfl, h2, hg _ h3, hg _ h4⟩)
  · rw [if_neg (by omega), if_neg (by omega)]; exact Or.inr (Or.inr ⟨h1, h2⟩)
theorem td_kept {p : Ir} (he : irErr p = 0) {s : List Bool} (hs : TdIn (tdStr p.blocks) s) : (∀ b ∈ (tdZ p s).1, (∀ o ∈ b.ops, opP p o) ∧ trmP p b.term) ∧ tdSum (tdOps (tdZ p s).1 (tdZ p s).2) p.blocks.length ≤ opsSum p.blocks := by
  obtain ⟨hl, hn⟩ := ir_tdOk he
  obtain ⟨_, _, _, h6⟩ := irErr_ok he
  have hi := td_inv (tdStr_ok hl) (by rw [tdStr_len]; exact hn) hs
  have h := tdJoin_all (cnt := tdCnt (tdStr p.blocks) s) (fun m z => z.1.length = p.blocks.length ∧ (∀ b ∈ z.1, (∀ o ∈ b.ops, opP p o) ∧ trmP p b.term) ∧ tdSum (tdOps z.1 z.2) p.blocks.length ≤ opsSum p.blocks) (tdStr p.blocks) s hi
    ⟨tdStr_len _, fun b hb => by
      obtain ⟨c, hc, rfl⟩ := List.mem_map.1 hb
      exact ⟨(h6 c hc).1, tdNam_P (fun k hk => tdLeads_lab hl hk) (h6 c hc).2⟩, by
      have h1 := opsSum_tdSum p.blocks p.blocks.length (Nat.le_refl _)
      rw [List.take_length] at h1
      rw [← h1]
      refine tdSum_mono _ fun i hi => ?_
      unfold tdOps
      split
      · rw [tdStr_at _ i hi]; exact Nat.le_refl _
      · exact Nat.zero_le _⟩
    (fun m z h _ => h)
    (fun m l' s' hi' hm hc ⟨h1, h2, h3⟩ => by
      obtain ⟨c, e, hck, _, hcl, hkl, hcs, _⟩ := hi'.only hm hc
      have hat := tdPut_at (l := l') hkl
      rw [e, Int.toNat_natCast] at hat ⊢
      have hcl2 : c < s'.length := by rw [hi'.len]; exact hcl
      refine ⟨by rw [tdPut_len]; exact h1, fun b hb => ?_, ?_⟩
      · unfold tdPut at hb
        rcases List.mem_or_eq_of_mem_set hb with hb | rfl
        · exact h2 b hb
        · rw [e, Int.toNat_natCast]
          have ha := h2 _ (getD_memI l' m blkNone hkl)
          have hb2 := h2 _ (getD_memI l' c blkNone hcl)
          refine ⟨fun o ho => ?_, hb2.2⟩
          rcases List.mem_append.1 ho with ho | ho
          · exact ha.1 o ho
          · exact hb2.1 o ho
      · have h1 : l'.length = p.blocks.length := h1
        have hmc : ¬ m = c := fun h => hck h.symm
        have e9 : tdSum (tdOps l' s') p.blocks.length = tdSum (tdOps (tdPut l' m) (s'.set c false)) p.blocks.length := by
          refine tdSum_two (k := m) (c := c) (by omega) (by omega) (fun h => hck h.symm) (fun i h7 h8 => ?_) ?_
          · unfold tdOps
            rw [hat, if_neg h7, getD_setB s' c i false false hcl2, if_neg h8]
          · unfold tdOps
            rw [hat, hat, if_pos rfl, if_neg hck, getD_setB s' c m false false hcl2, getD_setB s' c c false false hcl2]
            simp only [if_neg hmc, hm, hcs, if_true, eq_self, Bool.false_eq_true, if_false, List.length_append, Nat.add_zero]
        show tdSum (tdOps (tdPut l' m) (s'.set c false)) p.blocks.length ≤ _
        rw [← e9]; exact h3)
    (fun m l' s' _ _ _ h => h) p.blocks.length
  exact ⟨h.2.2.1, h.2.2.2⟩
/-- A tidied program may be. -/
theorem td_err {p : Ir} (he : irErr p = 0) {s : List Bool} (hs : TdIn (tdStr p.blocks) s) : irErr (tdIr p s) = 0 := by
  obtain ⟨hng, ⟨⟨h1, h2, h3, h4⟩, h5, h6⟩⟩ := irErr_ok he
  obtain ⟨hb, h, hlen⟩ := tdIr_blocks he hs
  obtain ⟨k1, k2⟩ := td_kept he hs
  have hql : (tdIr p s).blocks.length ≤ p.blocks.length := by
    rw [hb, h.inv.qlen, ← hlen, ← h.inv.len]; exact tdTrues_le _
  have hpos : 0 < (tdIr p s).blocks.length := by rw [hb, h.inv.qlen]; exact h.inv.pos
  have hos : opsSum (tdIr p s).blocks ≤ opsSum p.blocks := by
    show opsSum (tdOut _ _ _) ≤ _
    rw [opsSum_out]; exact k2
  have hg : ¬ greatP (tdIr p s) := by
    unfold greatP at hng ⊢
    have e1 : (tdIr p s).temps = p.temps := rfl
    have e2 : (tdIr p s).arrays = p.arrays := rfl
    have e3 : (tdIr p s).out = p.out := rfl
    rw [e1, e2, e3]
    omega
  have hm : mayP (tdIr p s) := by
    refine ⟨⟨h1, h2, h3, fun e => ?_⟩, h5, fun b hbm => ?_⟩
    · rw [e] at hpos; simp at hpos
    · obtain ⟨i, hi, rfl⟩ := List.getElem_of_mem hbm
      have e2 : (tdIr p s).blocks[i] = (tdIr p s).blocks.getD i blkNone := by rw [List.getD_eq_getElem?_getD, List.getElem?_eq_getElem hi]; rfl
      have hi2 : i < tdTrues (tdZ p s).2 := by rw [hb, h.inv.qlen] at hi; exact hi
      obtain ⟨k, hk, rfl⟩ := h.inv.onto hi2
      rw [e2, hb, h.inv.qat hk]
      have hbk := k1 _ (getD_memI (tdZ p s).1 k blkNone (h.inv.lt hk))
      have hok := h.inv.okNum hk
      refine ⟨fun o ho => opP_like (p := p) (q := tdIr p s) rfl rfl (hbk.1 o ho), ?_⟩
      have hlab : ∀ y, tdLab (tdTrues (tdZ p s).2) y → labelP (tdIr p s) y := fun y hy => by
        unfold labelP
        rw [hb, h.inv.qlen]
        exact hy
      have ht := hbk.2
      generalize ((tdZ p s).1.getD k blkNone).term = t at *
      show trmP (tdIr p s) (tdNam (tdNum (tdZ p s).2) t)
      unfold tdNam at hok ⊢
      rcases ht with ⟨t1, t2, t3, t4⟩ | ⟨t1, t2, t3, t4⟩ | ⟨t1, t2⟩
      · rw [if_pos t1] at hok ⊢
        rcases hok with ⟨_, a⟩ | ⟨a, _⟩ | a
        · exact Or.inl ⟨rfl, t2, t3, hlab _ a⟩
        · exact absurd (show (1 : Int) = 2 from a) (by decide)
        · exact absurd (show (1 : Int) = 3 from a) (by decide)
      · rw [if_neg (by omega), if_pos t1] at hok ⊢
        rcases hok with ⟨a, _⟩ | ⟨_, a, b⟩ | a
        · exact absurd (show (2 : Int) = 1 from a) (by decide)
        · exact Or.inr (Or.inl ⟨rfl, t2, hlab _ a, hlab _ b⟩)
        · exact absurd (show (2 : Int) = 3 from a) (by decide)
      · rw [if_neg (by omega), if_neg (by omega)] at hok ⊢
        exact Or.inr (Or.inr ⟨t1, t2⟩)
  unfold irErr
  rw [if_neg hg, if_pos hm]
end Go.Proofs.Ythkobddggoojlaa
namespace Go.Proofs.Ythkobddggoojlaa
open Go.RowKit
set_option linter.unusedVariables false
def fdNum (o : Opn) (n : Int) : Opn := ⟨1, o.dst, 0, 0, 0, n⟩
def fdCopied (f : Int → Option Int) (o : Opn) (t : Int) : Opn := match f t with
  | some n => fdNum o n
  | none => ⟨2, o.dst, t, 0, 0, 0⟩
def fdIs (f : Int → Option Int) (t n : Int) : Bool := decide (f t = some n)
def fdSrc (f : Int → Option Int) (o : Opn) (j : Nat) (t : Int) : Int := if j < fSrc o.kind then (f t).getD 0 else 0
def fdHas (f : Int → Option Int) (o : Opn) (j : Nat) (t : Int) : Bool := !decide (j < fSrc o.kind) || (f t).isSome
def fdReck (f : Int → Option Int) (o : Opn) : Option Int :=
  if fdHas f o 0 o.a = true ∧ fdHas f o 1 o.b = true ∧ fdHas f o 2 o.c = true then (valP o (fdSrc f o 0 o.a) (fdSrc f o 1 o.b) (fdSrc f o 2 o.c)).map Int.ofNat else none
def fdBeside (f : Int → Option Int) (o : Opn) (lets : Int) (zero : Bool) : Option Opn :=
  if zero = true ∧ (fdIs f o.a 0 = true ∨ fdIs f o.b 0 = true) then some (fdNum o 0)
  else if fdIs f o.a lets = true then some (fdCopied f o o.b)
  else if fdIs f o.b lets = true then some (fdCopied f o o.a) else none
def fdOne (f : Int → Option Int) (o : Opn) : Option Opn :=
  if o.kind = 3 ∨ o.kind = 8 ∨ o.kind = 9 then fdBeside f o 0 false
  else if o.kind = 5 then fdBeside f o 1 true
  else if o.kind = 7 then fdBeside f o 4294967295 true
  else if o.kind = 4 then (if fdIs f o.b 0 = true then some (fdCopied f o o.a) else none)
  else if o.kind = 11 ∨ o.kind = 12 ∨ o.kind = 13 then (if o.imm = 0 then some (fdCopied f o o.a) else none)
  else if o.kind = 17 then (if fdIs f o.c 4294967295 = true ∨ o.a = o.b then some (fdCopied f o o.a) else if fdIs f o.c 0 = true then some (fdCopied f o o.b) else none)
  else none
def fdSame (f : Int → Option Int) (o : Opn) : Opn :=
  if o.a ≠ o.b then o
  else if o.kind = 4 ∨ o.kind = 9 ∨ o.kind = 14 then fdNum o 0
  else if o.kind = 15 then fdNum o 4294967295
  else if o.kind = 7 ∨ o.kind = 8 then fdCopied f o o.a
  else o
def fdOp (f : Int → Option Int) (o : Opn) : Opn := match fdReck f o with
  | some n => fdNum o n
  | none => match fdOne f o with
    | some x => x
    | none => fdSame f o
def fdMap (f : Int → Option Int) (q : Opn) : Int → Option Int := if q.kind = 1 then upd f q.dst q.imm else if fDst q.kind = true then (fun k => if k = q.dst then none else f k) else f
def fdStep (s : (Int → Option Int) × List Opn) (o : Opn) : (Int → Option Int) × List Opn := (fdMap s.1 (fdOp s.1 o), s.2 ++ [fdOp s.1 o])
/-- What is known of a temp is what it holds. -/
def FdSt (f : Int → Option Int) (ts : List Int) : Prop := ∀ t n, f t = some n → rdT ts t = n
def FdOk (p : Ir) (f : Int → Option Int) : Prop := ∀ t n, f t = some n → isTemp p t ∧ wordR n
theorem toNat_lt {y : Int} (h : wordR y) : y.toNat < 4294967296 := by unfold wordR at h; omega
section
variable {x y z : Int}
end
section
variable {o : Opn} (ts : List Int)
end
theorem FdOk.map {p : Ir} {f : Int → Option Int} (h : FdOk p f) {q : Opn} (hq : opP p q) : FdOk p (fdMap f q) := by
  unfold fdMap
  split
  · rename_i hk
    intro t n e
    unfold upd at e
    split at e
    · rename_i ht
      injection e with e
      subst ht e
      have h2 := hq.2.1
      rw [hk] at h2
      have h3 : q.imm ≤ 4294967295 := h2.2
      exact ⟨opP_dst hq (by rw [hk]; rfl), by unfold wordR; omega⟩
    · exact h t n e
  · split
    · intro t n e
      simp only at e
      split at e
      · cases e
      · exact h t n e
    · exact h
theorem FdSt.step {p : Ir} {f : Int → Option Int} (hf : FdOk p f) {s s' : St} (h : FdSt f s.ts) (hfit : Fit p s) {q : Opn} (hq : opP p q) (hs : stepP p s q = some s') : FdSt (fdMap f q) s'.ts := by
  obtain ⟨h1, h2⟩ := step_ts hs hq.1
  unfold fdMap
  split
  · rename_i hk
    have hd : fDst q.kind = true := by rw [hk]; rfl
    obtain ⟨v, e, _, hv⟩ := h1 hd
    have hdt := opP_dst hq hd
    rw [e]
    intro t n hn
    unfold upd at hn
    split at hn
    · rename_i ht
      injection hn with hn
      subst ht hn
      rw [rdT_set hfit.tl hdt hdt.1, if_pos rfl]
      have hp : pureP s.ts q = some (wd q.imm) := by unfold pureP valP; rw [if_pos hk]
      rw [hv _ hp]
      have h2 := hq.2.1
      rw [hk] at h2
      have h3 : q.imm ≤ 4294967295 := h2.2
      rw [wd_cast]; omega
    · rename_i ht
      rw [rdT_set hfit.tl hdt (hf t n hn).1.1, if_neg ht]
      exact h t n hn
  · split
    · rename_i hd
      obtain ⟨v, e, _, _⟩ := h1 hd
      have hdt := opP_dst hq hd
      rw [e]
      intro t n hn
      simp only at hn
      split at hn
      · cases hn
      · rename_i ht
        rw [rdT_set hfit.tl hdt (hf t n hn).1.1, if_neg ht]
        exact h t n hn
    · rename_i hd
      rw [h2 hd]; exact h
/-- A program that may be is of numbers that lie in reach. -/
theorem may_fine {p : Ir} (h : p.fine) {q : Ir} (hq : irErr q = 0) (hT : q.temps = p.temps) (ha : q.arrays = p.arrays) (hi : q.inp = p.inp) (ho : q.out = p.out) : q.fine := by
  obtain ⟨hng, ⟨_, _, h6⟩⟩ := irErr_ok hq
  obtain ⟨f1, f2, f3, f4, f5, f6, f7⟩ := h
  have hn : (q.blocks.length : Int) ≤ 1048576 := by unfold greatP at hng; omega
  have hos : (opsSum q.blocks : Int) ≤ 1048576 := by unfold greatP at hng; omega
  have hTT : q.temps ≤ 1048576 := by unfold greatP at hng; omega
  have hsm : ∀ n : Int, -1 ≤ n → n ≤ 4294967295 → IntR n := fun n h0 h1 => by unfold IntR; omega
  have hfl : ∀ (b : Bool) (t : Int), fieldP q b t → IntR t := by
    intro b t ht
    cases b with
    | false => rw [show t = 0 from ht]; exact hsm 0 (by decide) (by decide)
    | true => obtain ⟨h0, h1⟩ := ht; exact hsm t (by omega) (by omega)
  refine ⟨by rw [hT]; exact f1, by rw [hi]; exact f2, by rw [ho]; exact f3, by rw [ha]; exact f4, by omega, by rw [ha]; exact f6, fun b hb => ⟨?_, fun o hoo => ?_, ?_⟩⟩
  · have hle : ∀ (l : List Blk), b ∈ l → b.ops.length ≤ opsSum l := by
      intro l
      induction l with
      | nil => intro h; simp at h
      | cons c l ih =>
        intro h
        rw [opsSum]
        rcases List.mem_cons.1 h with rfl | h
        · omega
        · have := ih h; omega
    have := hle _ hb
    omega
  · obtain ⟨o1, o2, o4, o5, o6, o7, o8⟩ := (h6 b hb).1 o hoo
    unfold fOk at o1
    rw [decide_eq_true_eq] at o1
    have hm : fMost o.kind ≤ 4294967295 := by unfold fMost; split <;> (try split) <;> (try split) <;> omega
    exact ⟨hsm _ (by omega) (by omega), hfl _ _ o4, hfl _ _ o5, hfl _ _ o6, hfl _ _ o7, hsm _ (by omega) (by omega)⟩
  · have hz := hsm 0 (by decide) (by decide)
    rcases (h6 b hb).2 with ⟨h1, h2, h3, h4, h5⟩ | ⟨h1, h2, h3, h4⟩ | ⟨h1, h2, h3, h4⟩
    · exact ⟨hsm _ (by omega) (by omega), by rw [h2]; exact hz, hsm _ h4 (by omega), by rw [h3]; exact hz⟩
    · obtain ⟨a1, a2⟩ := h2
      obtain ⟨b1, b2⟩ := h3
      obtain ⟨c1, c2⟩ := h4
      exact ⟨hsm _ (by omega) (by omega), hsm _ (by omega) (by omega), hsm _ b1 (by omega), hsm _ c1 (by omega)⟩
    · exact ⟨hsm _ (by omega) (by omega), by rw [h2]; exact hz, by rw [h3]; exact hz, by rw [h4]; exact hz⟩
theorem fine_noarr {q : Ir} (hq : irErr q = 0) (ha : q.arrays = []) : q.fine := by
  obtain ⟨hng, ⟨⟨h1, h2, h3, _⟩, _, _⟩⟩ := irErr_ok hq
  have hT : q.temps ≤ 1048576 := by unfold greatP at hng; omega
  have h : (⟨q.temps, [], [], q.inp, q.out⟩ : Ir).fine := ⟨by unfold IntR; simp only; omega, by unfold IntR; simp only; omega, by unfold IntR; simp only; omega, by simp, by simp, by intro x hx; simp at hx, by intro x hx; simp at hx⟩
  exact may_fine h hq rfl ha rfl rfl
end Go.Proofs.Ythkobddggoojlaa
namespace Go.Proofs.Ythkobddggoojlaa
open Go.RowKit
set_option linter.unusedVariables false
/-- Does an operation write this temp? -/
def ftHit (t : Int) (o : Opn) : Bool := fDst o.kind && decide (o.dst = t)
/-- The last operation that writes a temp. -/
def ftLast (l : List Opn) (t : Int) : Option Opn := l.reverse.find? (ftHit t)
def ftNum (o : Opn) : Option Int := if o.kind = 1 then some o.imm else none
def ftKn (l : List Opn) (t : Int) : Option Int := (ftLast l t).bind ftNum
def FtOf (l : List Opn) (f : Int → Option Int) : Prop := ∀ t, ftKn l t = f t
theorem ftKn_snoc (l : List Opn) (q : Opn) (t : Int) : ftKn (l ++ [q]) t = if ftHit t q = true then ftNum q else ftKn l t := by
  unfold ftKn ftLast
  rw [List.reverse_append, List.reverse_singleton, List.singleton_append, List.find?_cons]
  cases h : ftHit t q <;> simp
theorem FtOf.nil_ : FtOf [] (fun _ => none) := fun t => rfl
theorem fDst_one : fDst 1 = true := rfl
theorem FtOf.step {l : List Opn} {f : Int → Option Int} (h : FtOf l f) (q : Opn) : FtOf (l ++ [q]) (fdMap f q) := fun t => by
  rw [ftKn_snoc, h t]
  unfold fdMap
  by_cases hk : q.kind = 1
  · rw [if_pos hk]
    unfold ftHit ftNum upd
    rw [hk, fDst_one, Bool.true_and, if_pos rfl]
    by_cases ht : q.dst = t
    · rw [decide_eq_true ht, if_pos rfl, if_pos ht.symm]
    · rw [decide_eq_false ht, if_neg (by decide), if_neg (fun e => ht e.symm)]
  · rw [if_neg hk]
    unfold ftHit ftNum
    cases hd : fDst q.kind with
    | false => simp
    | true =>
      rw [Bool.true_and, if_pos rfl, if_neg hk]
      by_cases ht : q.dst = t
      · rw [decide_eq_true ht, if_pos rfl, if_pos ht.symm]
      · rw [decide_eq_false ht, if_neg (by decide), if_neg (fun e => ht e.symm)]
end Go.Proofs.Ythkobddggoojlaa
namespace Go.Proofs.Ythkobddggoojlaa
open Go.RowKit
set_option linter.unusedVariables false
theorem step_app {P : Program} {w : World} {ops : Array Oper} {o : Oper} {a : Act} {K : Act → World → Prop} {Q : Exit → Act → World → Prop} {E : Prop} (hgd : o.guard = none) (s x : Operand) (t : TypeId)
    (ho : o.op = .call { callee := .builtin .append, args := #[s, x], argTypes := #[t, t] }) {v xv v' : Value} {w' : World} (hrun : (Builtin.append_ #[t, t] o.type #[v, xv]).run P w = .ok v' w') (hs : a.eval s = v) (hx : a.eval x = xv)
    (h : K (a.put o.dst v') w') : if Region.wanted o (yielded ops a.tmps) = true then Oper.wp P o a w K Q else E := by
  rw [if_pos (by simp [Region.wanted, hgd])]
  unfold Oper.wp execOp
  simp only [ho, resolve, invoke, builtin, Sem.run_bind, Sem.run_pure, Result.andThen_ok, List.map_toArray, List.map_cons, List.map_nil, hs, hx, hrun]
  exact h
/-- All temps are known, and all that is folded is a number. -/
structure FaOk (p : Ir) (s : (Int → Option Int) × List Opn) (n : Nat) : Prop where
  known : ∀ t : Int, 0 ≤ t → t < n → (s.1 t).isSome = true
  num : ∀ o ∈ s.2, o.kind = 1
theorem FaOk.step {p : Ir} {s : (Int → Option Int) × List Opn} {n m : Nat} (h : FaOk p s n) {o : Opn} (hn : ∃ v, fdOp s.1 o = fdNum o v) (hm : ∀ t : Int, 0 ≤ t → t < m → t < n ∨ t = o.dst) : FaOk p (fdStep s o) m := by
  obtain ⟨v, hv⟩ := hn
  unfold fdStep
  rw [hv]
  refine ⟨fun t h0 h1 => ?_, fun q hq => ?_⟩
  · show ((fdMap s.1 (fdNum o v)) t).isSome = true
    unfold fdMap
    rw [if_pos (show (fdNum o v).kind = 1 from rfl)]
    show (upd s.1 o.dst v t).isSome = true
    unfold upd
    by_cases e : t = o.dst
    · rw [if_pos e]; rfl
    · rw [if_neg e]
      rcases hm t h0 h1 with h2 | h2
      · exact h.known t h0 h2
      · exact absurd h2 e
  · rcases List.mem_append.1 (show q ∈ s.2 ++ [fdNum o v] from hq) with hq | hq
    · exact h.num q hq
    · rw [List.mem_singleton.1 hq]; rfl
section
variable {w0 w w' : World} {H rc : Nat} {wc : Array Value} {ov : Value} {l : List Opn} {RA : Option Addr}
end
end Go.Proofs.Ythkobddggoojlaa
namespace Go.Proofs.Ythkobddggoojlaa
open Go.RowKit
set_option linter.unusedVariables false
theorem slRep_rows {T : Type} {E : Enc T} {w : World} {B g : Nat} {t : TypeId} (l : List T) (f : T → List Value) (hlen : ∀ x, (f x).length = E.size) (hb : w.heap[g]? = some (.cells (l.flatMap f).toArray t (0, 0))) (hB : g < B) (hr : ∀ x ∈ l, E.rep w B (f x) x) : SlRep E w B (.slice (some ⟨g, 0, none⟩) l.length l.length) l := by
  refine ⟨some ⟨g, 0, none⟩, l.length, rfl, Nat.le_refl _, fun k x hk => ⟨g, 0, f x, rfl, hB, hr x (List.mem_of_getElem? hk), fun j u hu => ?_⟩⟩
  have := (cell_of_blk hb (k * E.size + j)).1
  rw [Nat.zero_add, this, List.getElem?_toArray, List.flatMap_def]
  exact flatten_at E.size (l.map f) (fun es he => by obtain ⟨y, _, rfl⟩ := List.mem_map.1 he; exact hlen y) k (f x) (by rw [List.getElem?_map, hk]; rfl) j u hu
theorem blk_known {w : World} {B : Nat} {A : Option Addr} {c : Nat} {l : List Blk} (h : SlRep blkEnc w B (.slice A l.length c) l) (k : Nat) (b' : Blk) (hb : l[k]? = some b') :
    ∃ b off, A = some ⟨b, off, none⟩ ∧ b < B ∧ ∃ OA oc, SlRep opEnc w B (.slice OA b'.ops.length oc) b'.ops ∧ b'.ops.length ≤ oc ∧ w.cell? ⟨b, off + k * 5, none⟩ = some (.slice OA b'.ops.length oc) ∧ w.cell? ⟨b, off + k * 5 + 1, none⟩ = some (.int .i64 b'.term.kind) ∧
      w.cell? ⟨b, off + k * 5 + 2, none⟩ = some (.int .i64 b'.term.a) ∧ w.cell? ⟨b, off + k * 5 + 3, none⟩ = some (.int .i64 b'.term.yes) ∧ w.cell? ⟨b, off + k * 5 + 4, none⟩ = some (.int .i64 b'.term.no) := by
  have hk : k < l.length := (List.getElem?_eq_some_iff.1 hb).1
  have h3 := blk_at h k hk
  have e : l.getD k blkNone = b' := by rw [List.getD_eq_getElem?_getD, hb]; rfl
  rw [e] at h3
  exact h3
end Go.Proofs.Ythkobddggoojlaa
namespace Go.Proofs.Ythkobddggoojlaa
open Go.RowKit
set_option linter.unusedVariables false
theorem td_again {p : Ir} (he : irErr p = 0) {s : List Bool} (hs : TdIn (tdStr p.blocks) s) :
    0 < (tdIr p s).blocks.length ∧ (tdIr p s).blocks.length ≤ p.blocks.length ∧ TdOk (tdIr p s).blocks ∧ (∀ i, i < (tdIr p s).blocks.length → TdReach (tdIr p s).blocks i) ∧
      ∀ i, i < (tdIr p s).blocks.length → ∀ x ∈ tdTg ((tdIr p s).blocks.getD i blkNone).term, tdFix (tdIr p s).blocks x := by
  obtain ⟨e, h, hl⟩ := tdIr_blocks he hs
  rw [e, h.inv.qlen]
  refine ⟨h.inv.pos, ?_, h.inv.qok, fun i hi => h.qreach hi, fun i hi x hx => h.qfix hi hx⟩
  have := tdTrues_le (tdZ p s).2
  rw [h.inv.len] at this
  omega
/-- One flag set, where it is to be. -/
def agSet (b : Bool) (g : List Bool) (x : Int) : List Bool := if b = true then g.set x.toNat true else g
/-- What block i adds to the flags. -/
def agOne (t : Trm) (i : Nat) (g : List Bool) : List Bool := agSet (g.getD i false && (decide (t.kind ≠ 3) && decide (0 ≤ t.yes))) g t.yes
def agTwo (t : Trm) (i : Nat) (g : List Bool) : List Bool := agSet (g.getD i false && (decide (t.kind = 2) && decide (0 ≤ t.no))) g t.no
def agStep (t : Trm) (i : Nat) (g : List Bool) : List Bool := agTwo t i (agOne t i g)
theorem agSet_len (b : Bool) (g : List Bool) (x : Int) : (agSet b g x).length = g.length := by
  unfold agSet; split
  · rw [List.length_set]
  · rfl
theorem agStep_len (t : Trm) (i : Nat) (g : List Bool) : (agStep t i g).length = g.length := by
  unfold agStep agTwo agOne; rw [agSet_len, agSet_len]
theorem set_true_getD (g : List Bool) (k j : Nat) (h : g.getD j false = true) : (g.set k true).getD j false = true := by
  by_cases e : j = k
  · subst e
    rw [List.getD_eq_getElem?_getD, List.getElem?_set_self (flag_lt h)]; rfl
  · rw [List.getD_eq_getElem?_getD, List.getElem?_set_ne (Ne.symm e), ← List.getD_eq_getElem?_getD]; exact h
theorem agSet_up (b : Bool) (g : List Bool) (x : Int) (j : Nat) (h : g.getD j false = true) : (agSet b g x).getD j false = true := by
  unfold agSet; split
  · exact set_true_getD g _ j h
  · exact h
theorem agStep_up (t : Trm) (i : Nat) (g : List Bool) (j : Nat) (h : g.getD j false = true) : (agStep t i g).getD j false = true := agSet_up _ _ _ _ (agSet_up _ _ _ _ h)
theorem set_same_true (g : List Bool) (k : Nat) (h : g.getD k false = true) : g.set k true = g := by
  refine List.ext_getElem (by rw [List.length_set]) fun i h1 h2 => ?_
  rw [List.getElem_set]
  split
  · rename_i e
    subst e
    rw [List.getD_eq_getElem?_getD, List.getElem?_eq_getElem h2] at h
    exact h.symm
  · rfl
/-- Where all that block i names is there already, nothing changes. -/
theorem agStep_same {t : Trm} {n i : Nat} {g : List Bool} (ht : tdOkT n t) (h : g.getD i false = true → ∀ x ∈ tdTg t, g.getD x.toNat false = true) : agStep t i g = g := by
  have h1 : agOne t i g = g := by
    unfold agOne agSet
    split
    · rename_i hb
      simp only [Bool.and_eq_true, decide_eq_true_eq] at hb
      obtain ⟨hb1, hb2, hb3⟩ := hb
      refine set_same_true g _ (h hb1 _ ?_)
      unfold tdTg tdOne
      rcases ht with ⟨k1, _⟩ | ⟨k1, _, _⟩ | k1
      · rw [if_pos k1, if_neg (by omega)]; simp
      · rw [if_neg (by omega), if_pos k1, if_neg (by omega)]; simp
      · exact absurd k1 hb2
    · rfl
  unfold agStep
  rw [h1]
  unfold agTwo agSet
  split
  · rename_i hb
    simp only [Bool.and_eq_true, decide_eq_true_eq] at hb
    obtain ⟨hb1, hb2, hb3⟩ := hb
    refine set_same_true g _ (h hb1 _ ?_)
    unfold tdTg tdOne
    rw [if_neg (by omega), if_pos hb2]
    refine List.mem_append_right _ ?_
    rw [if_neg (by omega)]; simp
  · rfl
theorem agSet_in {g : List Bool} {x : Int} (hx : x.toNat < g.length) : (agSet true g x).getD x.toNat false = true := by
  unfold agSet
  rw [if_pos rfl, List.getD_eq_getElem?_getD, List.getElem?_set_self hx]; rfl
/-- What block i names is there behind it. -/
theorem agStep_in {t : Trm} {n i : Nat} {g : List Bool} (ht : tdOkT n t) (hn : g.length = n) (hi : g.getD i false = true) {x : Int} (hx : x ∈ tdTg t) : (agStep t i g).getD x.toNat false = true := by
  have hlab := tdTg_lab ht hx
  have hlt : x.toNat < g.length := by omega
  unfold tdTg at hx
  rcases ht with ⟨k1, a⟩ | ⟨k1, a, b⟩ | k1
  · rw [if_pos k1] at hx
    obtain ⟨x0, _, rfl⟩ := tdOne_mem a hx
    unfold agStep
    refine agSet_up _ _ _ _ ?_
    have hb : (g.getD i false && (decide (t.kind ≠ 3) && decide (0 ≤ t.yes))) = true := by
      rw [hi, decide_eq_true (by omega), decide_eq_true x0]; rfl
    unfold agOne
    rw [hb]
    exact agSet_in hlt
  · rw [if_neg (by omega), if_pos k1] at hx
    rcases List.mem_append.1 hx with hx | hx
    · obtain ⟨x0, _, rfl⟩ := tdOne_mem a hx
      unfold agStep
      refine agSet_up _ _ _ _ ?_
      have hb : (g.getD i false && (decide (t.kind ≠ 3) && decide (0 ≤ t.yes))) = true := by
        rw [hi, decide_eq_true (by omega), decide_eq_true x0]; rfl
      unfold agOne
      rw [hb]
      exact agSet_in hlt
    · obtain ⟨x0, _, rfl⟩ := tdOne_mem b hx
      unfold agStep agTwo
      have hi2 : (agOne t i g).getD i false = true := agSet_up _ _ _ _ hi
      rw [hi2, decide_eq_true k1, decide_eq_true x0]
      refine agSet_in ?_
      unfold agOne
      rw [agSet_len]; exact hlt
  · rw [if_neg (by omega), if_neg (by omega)] at hx
    cases hx
theorem trues_mono : ∀ (s t : List Bool), s.length = t.length → (∀ k, s.getD k false = true → t.getD k false = true) → tdTrues s ≤ tdTrues t
  | [], t, _, _ => Nat.zero_le _
  | a :: s, [], h, _ => by simp at h
  | a :: s, b :: t, h, hk => by
    have h1 := trues_mono s t (by simpa using h) (fun k hs => by have := hk (k + 1) (by simpa using hs); simpa using this)
    have h0 := hk 0
    unfold tdTrues at h1 ⊢
    cases a with
    | false =>
      cases b with
      | false => simpa using h1
      | true => simp; omega
    | true =>
      have : b = true := by simpa using h0
      subst this
      simp; omega
theorem trues_lt : ∀ (s t : List Bool), s.length = t.length → (∀ k, s.getD k false = true → t.getD k false = true) → ∀ x, s.getD x false = false → t.getD x false = true → tdTrues s < tdTrues t
  | [], [], _, _, x, _, h2 => by simp at h2
  | [], b :: t, h, _, _, _, _ => by simp at h
  | a :: s, [], h, _, _, _, _ => by simp at h
  | a :: s, b :: t, h, hk, 0, h1, h2 => by
    have h3 := trues_mono s t (by simpa using h) (fun k hs => by have := hk (k + 1) (by simpa using hs); simpa using this)
    have ha : a = false := by simpa using h1
    have hb : b = true := by simpa using h2
    subst ha; subst hb
    unfold tdTrues at h3 ⊢
    simp; omega
  | a :: s, b :: t, h, hk, x + 1, h1, h2 => by
    have h3 := trues_lt s t (by simpa using h) (fun k hs => by have := hk (k + 1) (by simpa using hs); simpa using this) x (by simpa using h1) (by simpa using h2)
    have h0 := hk 0
    unfold tdTrues at h3 ⊢
    cases a with
    | false =>
      cases b with
      | false => simpa using h3
      | true => simp; omega
    | true =>
      have : b = true := by simpa using h0
      subst this
      simp; omega
/-- Within a round: nothing new yet, or more flags than before it and it was not closed. -/
structure AgIn (q : List Blk) (g0 : List Bool) (i : Nat) (g : List Bool) : Prop where
  len : g.length = q.length
  zero : g.getD 0 false = true
  or_ : (g = g0 ∧ ∀ j, j < i → g0.getD j false = true → ∀ x ∈ tdTg (q.getD j blkNone).term, g0.getD x.toNat false = true) ∨ (tdTrues g0 < tdTrues g ∧ ¬ TdClosed q g0)
theorem AgIn.start {q : List Blk} {g : List Bool} (h1 : g.length = q.length) (h2 : g.getD 0 false = true) : AgIn q g 0 g := ⟨h1, h2, Or.inl ⟨rfl, fun j hj => absurd hj (Nat.not_lt_zero j)⟩⟩
theorem AgIn.step {q : List Blk} (hq : TdOk q) {g0 g : List Bool} {i : Nat} (h : AgIn q g0 i g) (hi : i < q.length) : AgIn q g0 (i + 1) (agStep (q.getD i blkNone).term i g) := by
  have ht := hq.at_ i hi
  refine ⟨by rw [agStep_len]; exact h.len, agStep_up _ _ _ _ h.zero, ?_⟩
  rcases h.or_ with ⟨e, hj⟩ | ⟨h1, h2⟩
  · subst e
    by_cases hc : g.getD i false = true → ∀ x ∈ tdTg (q.getD i blkNone).term, g.getD x.toNat false = true
    · refine Or.inl ⟨agStep_same ht hc, fun j hj1 hg x hx => ?_⟩
      by_cases e : j = i
      · subst e; exact hc hg x hx
      · exact hj j (by omega) hg x hx
    · refine Or.inr ⟨?_, fun hcl => hc fun hg x hx => hcl i hg x hx⟩
      have hc2 : g.getD i false = true ∧ ∃ x ∈ tdTg (q.getD i blkNone).term, ¬ g.getD x.toNat false = true := by
        refine Classical.byContradiction fun hn => hc fun hg x hx => Classical.byContradiction fun hx2 => hn ⟨hg, x, hx, hx2⟩
      obtain ⟨hg, x, hx, hx2⟩ := hc2
      exact trues_lt _ _ (agStep_len _ _ _).symm (fun k => agStep_up _ _ _ k) x.toNat (by simpa using hx2) (agStep_in ht h.len hg hx)
  · exact Or.inr ⟨Nat.lt_of_lt_of_le h1 (trues_mono _ _ (agStep_len _ _ _).symm (fun k => agStep_up _ _ _ k)), h2⟩
/-- Ahead of a round n: block 0 is there, and if it isn't closed there are more than n flags. -/
structure AgOut (q : List Blk) (n : Nat) (g : List Bool) : Prop where
  len : g.length = q.length
  zero : g.getD 0 false = true
  more : ¬ TdClosed q g → n + 1 ≤ tdTrues g
theorem AgOut.start {q : List Blk} (h0 : 0 < q.length) : AgOut q 0 ((List.replicate q.length false).set 0 true) := by
  have hz : ((List.replicate q.length false).set 0 true).getD 0 false = true := by
    rw [List.getD_eq_getElem?_getD, List.getElem?_set_self (by rw [List.length_replicate]; exact h0)]; rfl
  refine ⟨by rw [List.length_set, List.length_replicate], hz, fun _ => ?_⟩
  unfold tdTrues
  have : true ∈ (List.replicate q.length false).set 0 true := List.mem_of_getElem? (i := 0) (List.getElem?_set_self (by rw [List.length_replicate]; exact h0))
  have := List.count_pos_iff.2 this
  omega
theorem AgOut.round {q : List Blk} {n : Nat} {g0 g : List Bool} (h0 : AgOut q n g0) (h : AgIn q g0 q.length g) : AgOut q (n + 1) g := by
  refine ⟨h.len, h.zero, fun hc => ?_⟩
  rcases h.or_ with ⟨e, hj⟩ | ⟨h1, h2⟩
  · subst e
    exact absurd (fun i hi x hx => hj i (by have := flag_lt hi; rw [h.len] at this; exact this) hi x hx) hc
  · have := h0.more h2
    omega
theorem AgOut.all {q : List Blk} {g : List Bool} (h : AgOut q q.length g) (hr : ∀ i, i < q.length → TdReach q i) (i : Nat) (hi : i < q.length) : g.getD i false = true := by
  have hc : TdClosed q g := Classical.byContradiction fun hn => by
    have h1 := h.more hn
    have h2 := tdTrues_le g
    rw [h.len] at h2
    omega
  exact (hr i hi).closed h.zero hc
theorem agStep_none {t : Trm} {i : Nat} {g : List Bool} (hg : g.getD i false = false) : agStep t i g = g := by
  have h1 : agOne t i g = g := by unfold agOne agSet; rw [hg]; rfl
  unfold agStep
  rw [h1]
  unfold agTwo agSet; rw [hg]; rfl
theorem agStep_true {t : Trm} {i : Nat} {g : List Bool} (hg : g.getD i false = true) : agStep t i g = agSet (decide (t.kind = 2) && decide (0 ≤ t.no)) (agSet (decide (t.kind ≠ 3) && decide (0 ≤ t.yes)) g t.yes) t.no := by
  unfold agStep
  have h2 : (agOne t i g).getD i false = true := agSet_up _ _ _ _ hg
  unfold agTwo
  rw [h2]
  unfold agOne
  rw [hg]
  rfl
end Go.Proofs.Ythkobddggoojlaa
