/- A program with its copies replaced makes the same, and is its own. Plain facts. -/
import Derived.Test.YtiaimceefkdchaaCopC
import Derived.Test.YtiaimceefkdchaaTurnM
namespace Go.Proofs.Ytiaimceefkdchaa
open Go.RowKit
set_option linter.unusedVariables false
def cpIr (p : Ir) : Ir := ⟨p.temps, p.arrays, p.blocks.map cpBlk, p.inp, p.out⟩
/-- What stands for what, told by operations that are done with. -/
def cpF (l : List Opn) : Int → Option Int := l.foldl cpMap (fun _ => none)
theorem cpF_snoc (l : List Opn) (o : Opn) : cpF (l ++ [o]) = cpMap (cpF l) o := by unfold cpF; rw [List.foldl_append]; rfl
theorem cpList_fst (l : List Opn) : (cpList l).1 = cpF (cpList l).2 := by
  have h : ∀ (l : List Opn) (s : (Int → Option Int) × List Opn), s.1 = cpF s.2 → (l.foldl cpStep s).1 = cpF (l.foldl cpStep s).2 := by
    intro l
    induction l with
    | nil => intro s h; exact h
    | cons o l ih =>
      intro s h
      rw [List.foldl_cons]
      refine ih _ ?_
      unfold cpStep
      simp only
      rw [cpF_snoc, h]
  exact h l _ rfl
theorem cpMap_eq {f : Int → Option Int} {o : Opn} (h : fDst o.kind = true) : cpMap f o o.dst = if o.kind = 2 ∧ o.a ≠ o.dst then some o.a else none := by
  unfold cpMap
  rw [if_pos h]
  split
  · unfold upd; rw [if_pos rfl]
  · unfold cpForget; rw [if_pos rfl]
theorem cpMap_ne {f : Int → Option Int} {o : Opn} {t : Int} (h : fDst o.kind = true) (hne : t ≠ o.dst) : cpMap f o t = if f t = some o.dst then none else f t := by
  unfold cpMap
  rw [if_pos h]
  split
  · unfold upd; rw [if_neg hne]; unfold cpForget; rw [if_neg hne]
  · unfold cpForget; rw [if_neg hne]
theorem cpMap_no {f : Int → Option Int} {o : Opn} (h : ¬ fDst o.kind = true) : cpMap f o = f := by unfold cpMap; rw [if_neg h]
structure CpOk (p : Ir) (f : Int → Option Int) : Prop where
  tmp : ∀ t u, f t = some u → isTemp p t ∧ isTemp p u
  end_ : ∀ t u, f t = some u → f u = none
theorem cpOk_nil (p : Ir) : CpOk p (fun _ => none) := ⟨fun t u h => by (cases h), fun t u h => by (cases h)⟩
theorem CpOk.map {p : Ir} {f : Int → Option Int} (h : CpOk p f) {q : Opn} (hd : fDst q.kind = true → isTemp p q.dst) (ha : q.kind = 2 → isTemp p q.a ∧ f q.a = none) : CpOk p (cpMap f q) := by
  by_cases hm : fDst q.kind = true
  · refine ⟨fun t u e => ?_, fun t u e => ?_⟩
    · by_cases ht : t = q.dst
      · subst ht
        rw [cpMap_eq hm] at e
        split at e
        · rename_i hc
          injection e with e
          subst e
          exact ⟨hd hm, (ha hc.1).1⟩
        · cases e
      · rw [cpMap_ne hm ht] at e
        split at e
        · cases e
        · exact h.tmp t u e
    · by_cases ht : t = q.dst
      · subst ht
        rw [cpMap_eq hm] at e
        split at e
        · rename_i hc
          injection e with e
          subst e
          rw [cpMap_ne hm hc.2, (ha hc.1).2]
          simp
        · cases e
      · rw [cpMap_ne hm ht] at e
        split at e
        · cases e
        · rename_i hne
          have hu : u ≠ q.dst := fun hu => hne (by rw [e, hu])
          rw [cpMap_ne hm hu, h.end_ t u e]
          simp
  · rw [cpMap_no hm]; exact h
theorem cpOf_none {f : Int → Option Int} (h : ∀ t u, f t = some u → f u = none) (t : Int) : f (cpOf f t) = none := by
  unfold cpOf
  cases e : f t with
  | none => exact e
  | some u => exact h t u e
theorem cpOf_idem {f : Int → Option Int} (h : ∀ t u, f t = some u → f u = none) (t : Int) : cpOf f (cpOf f t) = cpOf f t := by
  have e := cpOf_none h t
  generalize cpOf f t = u at *
  unfold cpOf
  rw [e]; rfl
theorem CpOk.of {p : Ir} {f : Int → Option Int} (h : CpOk p f) {t : Int} (ht : isTemp p t) : isTemp p (cpOf f t) := by
  unfold cpOf
  cases e : f t with
  | none => exact ht
  | some u => exact (h.tmp t u e).2
theorem CpOk.op {p : Ir} {f : Int → Option Int} (h : CpOk p f) {o : Opn} (ho : opP p o) : opP p (cpOp f o) := by
  obtain ⟨o1, o2, o4, o5, o6, o7, o8⟩ := ho
  have hf : ∀ (n : Nat) (t : Int), fieldP p (decide (n < fSrc o.kind)) t → fieldP p (decide (n < fSrc o.kind)) (if n < fSrc o.kind then cpOf f t else t) := by
    intro n t ht
    by_cases hn : n < fSrc o.kind
    · rw [if_pos hn]
      rw [decide_eq_true hn] at ht ⊢
      exact h.of ht
    · rw [if_neg hn]; exact ht
  exact ⟨o1, o2, o4, hf 0 _ o5, hf 1 _ o6, hf 2 _ o7, o8⟩
theorem cpOp_idem {f : Int → Option Int} (h : ∀ t u, f t = some u → f u = none) (o : Opn) : cpOp f (cpOp f o) = cpOp f o := by
  have hh : ∀ (n m : Nat) (t : Int), (if n < m then cpOf f (if n < m then cpOf f t else t) else (if n < m then cpOf f t else t)) = if n < m then cpOf f t else t := by
    intro n m t
    by_cases hc : n < m
    · rw [if_pos hc, if_pos hc, cpOf_idem h]
    · rw [if_neg hc]
  unfold cpOp
  simp only [hh]
theorem opP_dst {p : Ir} {o : Opn} (ho : opP p o) (h : fDst o.kind = true) : isTemp p o.dst := by
  have h3 := ho.2.2.1
  rw [h] at h3
  exact h3
theorem opP_a {p : Ir} {o : Opn} (ho : opP p o) (h : o.kind = 2) : isTemp p o.a := by
  have h3 := ho.2.2.2.1
  rw [h] at h3
  exact h3
theorem cpOp_a2 (f : Int → Option Int) {o : Opn} (h : o.kind = 2) : (cpOp f o).a = cpOf f o.a := by
  unfold cpOp
  simp only
  rw [h]; rfl
theorem CpOk.step {p : Ir} {f : Int → Option Int} (h : CpOk p f) {o : Opn} (ho : opP p o) : CpOk p (cpMap f (cpOp f o)) := by
  have hq := h.op ho
  refine h.map (fun hd => opP_dst hq hd) (fun hk => ⟨opP_a hq hk, ?_⟩)
  have hk : o.kind = 2 := hk
  rw [cpOp_a2 f hk]
  exact cpOf_none h.end_ _
theorem cpFold_ok {p : Ir} : ∀ (l : List Opn) (s : (Int → Option Int) × List Opn), CpOk p s.1 → (∀ o ∈ s.2, opP p o) → (∀ o ∈ l, opP p o) → CpOk p (l.foldl cpStep s).1 ∧ ∀ o ∈ (l.foldl cpStep s).2, opP p o
  | [], s, h1, h2, _ => ⟨h1, h2⟩
  | o :: l, s, h1, h2, h3 => by
    rw [List.foldl_cons]
    have ho := h3 o (by simp)
    refine cpFold_ok l _ (h1.step ho) (fun x hx => ?_) (fun x hx => h3 x (by simp [hx]))
    rcases List.mem_append.1 (show x ∈ s.2 ++ [cpOp s.1 o] from hx) with hx | hx
    · exact h2 x hx
    · rw [List.mem_singleton.1 hx]; exact h1.op ho
theorem cpList_ok {p : Ir} {l : List Opn} (h : ∀ o ∈ l, opP p o) : CpOk p (cpList l).1 ∧ ∀ o ∈ (cpList l).2, opP p o := cpFold_ok l _ (cpOk_nil p) (fun o ho => by simp at ho) h
theorem cpFold_idem {p : Ir} : ∀ (l : List Opn) (s : (Int → Option Int) × List Opn), CpOk p s.1 → cpList s.2 = s → (∀ o ∈ l, opP p o) → cpList (l.foldl cpStep s).2 = l.foldl cpStep s
  | [], s, _, h2, _ => h2
  | o :: l, s, h1, h2, h3 => by
    rw [List.foldl_cons]
    have ho := h3 o (by simp)
    refine cpFold_idem l _ (h1.step ho) ?_ (fun x hx => h3 x (by simp [hx]))
    show cpList (s.2 ++ [cpOp s.1 o]) = cpStep s o
    rw [cpList_snoc, h2]
    unfold cpStep
    rw [cpOp_idem h1.end_]
theorem cpList_idem {p : Ir} {l : List Opn} (h : ∀ o ∈ l, opP p o) : cpList (cpList l).2 = cpList l := cpFold_idem l _ (cpOk_nil p) rfl h
theorem cpBlk_idem {p : Ir} {b : Blk} (h : ∀ o ∈ b.ops, opP p o) : cpBlk (cpBlk b) = cpBlk b := by
  have hi := cpList_idem h
  have he := (cpList_ok h).1.end_
  show (⟨(cpList (cpList b.ops).2).2, cpTrm (cpList (cpList b.ops).2).1 (cpTrm (cpList b.ops).1 b.term)⟩ : Blk) = _
  rw [hi]
  unfold cpBlk cpTrm
  simp only
  by_cases hk : b.term.kind = 2
  · rw [if_pos hk, if_pos hk, cpOf_idem he]
  · rw [if_neg hk, if_neg hk]
theorem cpIr_idem {p : Ir} (h : ∀ b ∈ p.blocks, blkP p b) : cpIr (cpIr p) = cpIr p := by
  unfold cpIr
  simp only [List.map_map]
  congr 1
  refine List.map_congr_left fun b hb => ?_
  exact cpBlk_idem (h b hb).1
/-- What stands for another one holds the same. -/
def CpSt (f : Int → Option Int) (ts : List Int) : Prop := ∀ t u, f t = some u → rdT ts t = rdT ts u
theorem CpSt.of {f : Int → Option Int} {ts : List Int} (h : CpSt f ts) (t : Int) : rdT ts (cpOf f t) = rdT ts t := by
  unfold cpOf
  cases e : f t with
  | none => rfl
  | some u => exact (h t u e).symm
theorem CpSt.src {f : Int → Option Int} {ts : List Int} (h : CpSt f ts) (o : Opn) (j : Nat) (t : Int) : srcP ts (cpOp f o) j (if j < fSrc o.kind then cpOf f t else t) = srcP ts o j t := by
  unfold srcP
  show (if j < fSrc o.kind then rdT ts (if j < fSrc o.kind then cpOf f t else t) else 0) = _
  by_cases hj : j < fSrc o.kind
  · rw [if_pos hj, if_pos hj, if_pos hj, h.of]
  · rw [if_neg hj, if_neg hj]
theorem step_cp {p q : Ir} (ha : q.arrays = p.arrays) {f : Int → Option Int} {s : St} (h : CpSt f s.ts) (o : Opn) : stepP q s (cpOp f o) = stepP p s o := by
  have e0 : srcP s.ts (cpOp f o) 0 (cpOp f o).a = srcP s.ts o 0 o.a := h.src o 0 o.a
  have e1 : srcP s.ts (cpOp f o) 1 (cpOp f o).b = srcP s.ts o 1 o.b := h.src o 1 o.b
  have e2 : srcP s.ts (cpOp f o) 2 (cpOp f o).c = srcP s.ts o 2 o.c := h.src o 2 o.c
  have ep : pureP s.ts (cpOp f o) = pureP s.ts o := by
    unfold pureP
    rw [e0, e1, e2]; rfl
  unfold stepP
  rw [ep, e0, e1, ha]
  rfl
theorem step_ts {p : Ir} {s s' : St} {o : Opn} (h : stepP p s o = some s') (hk : fOk o.kind = true) :
    (fDst o.kind = true → ∃ v, s'.ts = s.ts.set o.dst.toNat v ∧ (o.kind = 2 → v = ((wd (rdT s.ts o.a) : Nat) : Int)) ∧ (∀ n, pureP s.ts o = some n → v = (n : Int))) ∧ (¬ fDst o.kind = true → s'.ts = s.ts) := by
  unfold stepP at h
  cases hp : pureP s.ts o with
  | some v =>
    rw [hp] at h
    injection h with h
    subst h
    refine ⟨fun _ => ⟨v, rfl, fun h2 => ?_, fun n e => by injection e with e; rw [e]⟩, fun hd => ?_⟩
    · unfold pureP valP at hp
      rw [if_neg (by omega), if_pos h2] at hp
      injection hp with hp
      rw [← hp]
      unfold srcP
      rw [h2]; rfl
    · exfalso
      have hn : o.kind = 19 := by
        unfold fOk at hk
        unfold fDst at hd
        simp only [decide_eq_true_eq] at hk hd
        omega
      unfold pureP valP at hp
      rw [hn] at hp
      simp at hp
  | none =>
    rw [hp] at h
    simp only at h
    split at h
    · cases h
    · split at h
      · rename_i hk18
        injection h with h
        subst h
        refine ⟨fun _ => ⟨_, rfl, fun h2 => by omega, fun n e => by (cases e)⟩, fun hd => ?_⟩
        exfalso; apply hd; unfold fDst; rw [decide_eq_true_eq]; omega
      · rename_i hk18
        injection h with h
        subst h
        refine ⟨fun hd => ?_, fun _ => rfl⟩
        exfalso
        rcases valP_none hp hk with e | e
        · exact hk18 e
        · unfold fDst at hd; rw [decide_eq_true_eq] at hd; omega
theorem rdT_set {p : Ir} {ts : List Int} (hl : ts.length = p.temps.toNat) {d t : Int} (hd : isTemp p d) (ht : 0 ≤ t) (v : Int) : rdT (ts.set d.toNat v) t = if t = d then v else rdT ts t := by
  obtain ⟨d0, d1⟩ := hd
  unfold rdT
  by_cases e : t = d
  · subst e; rw [if_pos rfl, getD_set_self _ _ _ _ (by omega)]
  · rw [if_neg e, getD_set_ne _ _ _ _ _ (by omega)]
theorem wd_rdT {ts : List Int} (h : ∀ x ∈ ts, wordR x) (t : Int) : ((wd (rdT ts t) : Nat) : Int) = rdT ts t := by
  have hw := rdT_word h t
  rw [wd_cast]
  unfold wordR at hw
  omega
theorem CpSt.step {p : Ir} {f : Int → Option Int} (hf : CpOk p f) {s s' : St} (h : CpSt f s.ts) (hfit : Fit p s) {q : Opn} (hq : opP p q) (hs : stepP p s q = some s') : CpSt (cpMap f q) s'.ts := by
  obtain ⟨h1, h2⟩ := step_ts hs hq.1
  by_cases hd : fDst q.kind = true
  · obtain ⟨v, e, hv, _⟩ := h1 hd
    have hdt := opP_dst hq hd
    rw [e]
    intro t u hu
    by_cases ht : t = q.dst
    · subst ht
      rw [cpMap_eq hd] at hu
      split at hu
      · rename_i hc
        injection hu with hu
        subst hu
        have ha := opP_a hq hc.1
        rw [rdT_set hfit.tl hdt hdt.1, if_pos rfl, rdT_set hfit.tl hdt ha.1, if_neg hc.2, hv hc.1, wd_rdT hfit.tw]
      · cases hu
    · rw [cpMap_ne hd ht] at hu
      split at hu
      · cases hu
      · rename_i hne
        have hud : u ≠ q.dst := fun e => hne (by rw [hu, e])
        obtain ⟨t1, t2⟩ := hf.tmp t u hu
        rw [rdT_set hfit.tl hdt t1.1, if_neg ht, rdT_set hfit.tl hdt t2.1, if_neg hud]
        exact h t u hu
  · rw [h2 hd, cpMap_no hd]; exact h
theorem cpFold_pre : ∀ (l : List Opn) (s : (Int → Option Int) × List Opn), ∃ m, (l.foldl cpStep s).2 = s.2 ++ m
  | [], s => ⟨[], by simp⟩
  | o :: l, s => by
    obtain ⟨m, hm⟩ := cpFold_pre l (cpStep s o)
    exact ⟨cpOp s.1 o :: m, by rw [List.foldl_cons, hm]; simp [cpStep]⟩
theorem cpList_at (l : List Opn) (k : Nat) (h : k < l.length) : (cpList l).2.getD k opNone = cpOp (cpList (l.take k)).1 (l.getD k opNone) := by
  have e : cpList l = (l.drop (k + 1)).foldl cpStep (cpStep (cpList (l.take k)) (l.getD k opNone)) := by
    rw [← cpList_snoc, ← take_succ_getD l k opNone h]
    unfold cpList
    rw [← List.foldl_append, List.take_append_drop]
  obtain ⟨m, hm⟩ := cpFold_pre (l.drop (k + 1)) (cpStep (cpList (l.take k)) (l.getD k opNone))
  have hl := cpList_len (l.take k)
  rw [List.length_take, Nat.min_eq_left (by omega)] at hl
  rw [e, hm]
  show (((cpList (l.take k)).2 ++ [_]) ++ m).getD k opNone = _
  rw [List.getD_eq_getElem?_getD, List.append_assoc, List.getElem?_append_right (by omega), hl, Nat.sub_self]
  rfl
theorem next_cp {f : Int → Option Int} {ts : List Int} (h : CpSt f ts) (t : Trm) (hk : t.kind = 1 ∨ t.kind = 2) : nextP ts (cpTrm f t) = nextP ts t := by
  unfold nextP
  show (if t.kind = 1 then t.yes else if rdT ts (if t.kind = 2 then cpOf f t.a else t.a) = _ then t.yes else if rdT ts (if t.kind = 2 then cpOf f t.a else t.a) = 0 then t.no else -1) = _
  rcases hk with hk | hk
  · rw [if_pos hk, if_pos hk]
  · rw [if_pos hk, h.of]
theorem run_cp {p : Ir} (hb : ∀ b ∈ p.blocks, blkP p b) : ∀ (n : Nat) (at_ : Int) (k : Nat) (s : St), labelP p at_ → k ≤ (p.blocks.getD at_.toNat blkNone).ops.length → Fit p s → CpSt (cpList ((p.blocks.getD at_.toNat blkNone).ops.take k)).1 s.ts → runP (cpIr p) n at_ k s = runP p n at_ k s
  | 0, at_, k, s, hl, _, _, _ => by
    by_cases ha : at_ = -1
    · subst ha; rw [runP_none, runP_none]
    · rw [runP_zero _ _ _ _ ha, runP_zero _ _ _ _ ha]
  | n + 1, at_, k, s, hl, hk, hfit, hst => by
    by_cases ha : at_ = -1
    · subst ha; rw [runP_none, runP_none]
    · obtain ⟨l0, l1⟩ := hl
      have hlt : at_.toNat < p.blocks.length := by omega
      obtain ⟨hop, htr⟩ := hb _ (getD_memI p.blocks at_.toNat blkNone hlt)
      have hq : (cpIr p).blocks.getD at_.toNat blkNone = cpBlk (p.blocks.getD at_.toNat blkNone) := getD_mapI _ _ _ _ _ hlt
      rw [runP_succ _ _ _ _ _ ha, runP_succ _ _ _ _ _ ha]
      unfold mStep
      rw [hq]
      have hol : (cpBlk (p.blocks.getD at_.toNat blkNone)).ops.length = (p.blocks.getD at_.toNat blkNone).ops.length := cpList_len _
      rw [hol]
      by_cases hk2 : k < (p.blocks.getD at_.toNat blkNone).ops.length
      · rw [if_pos hk2, if_pos hk2]
        have ho := hop _ (getD_memI _ k opNone hk2)
        have hoq : (cpBlk (p.blocks.getD at_.toNat blkNone)).ops.getD k opNone = cpOp (cpList ((p.blocks.getD at_.toNat blkNone).ops.take k)).1 ((p.blocks.getD at_.toNat blkNone).ops.getD k opNone) := cpList_at _ k hk2
        have hok := (cpList_ok (p := p) (l := (p.blocks.getD at_.toNat blkNone).ops.take k) (fun o h => hop o (List.mem_of_mem_take h))).1
        have hpp : stepP p s (cpOp (cpList ((p.blocks.getD at_.toNat blkNone).ops.take k)).1 ((p.blocks.getD at_.toNat blkNone).ops.getD k opNone)) = stepP p s ((p.blocks.getD at_.toNat blkNone).ops.getD k opNone) := step_cp rfl hst _
        rw [hoq, step_cp (p := p) (q := cpIr p) rfl hst]
        cases hs : stepP p s ((p.blocks.getD at_.toNat blkNone).ops.getD k opNone) with
        | none => rfl
        | some s' =>
          simp only
          refine run_cp hb n at_ (k + 1) s' ⟨l0, l1⟩ hk2 (fit_step hfit hs) ?_
          rw [take_succ_getD _ k opNone hk2, cpList_snoc]
          exact CpSt.step hok hst hfit (hok.op ho) (hpp.trans hs)
      · rw [if_neg hk2, if_neg hk2]
        have hke : k = (p.blocks.getD at_.toNat blkNone).ops.length := by omega
        subst hke
        rw [List.take_length] at hst
        have htq : (cpBlk (p.blocks.getD at_.toNat blkNone)).term = cpTrm (cpList (p.blocks.getD at_.toNat blkNone).ops).1 (p.blocks.getD at_.toNat blkNone).term := rfl
        rw [htq]
        have htk : (cpTrm (cpList (p.blocks.getD at_.toNat blkNone).ops).1 (p.blocks.getD at_.toNat blkNone).term).kind = (p.blocks.getD at_.toNat blkNone).term.kind := rfl
        rw [htk]
        by_cases h3 : (p.blocks.getD at_.toNat blkNone).term.kind = 3
        · rw [if_pos h3, if_pos h3]; rfl
        · rw [if_neg h3, if_neg h3]
          simp only
          have hk12 : (p.blocks.getD at_.toNat blkNone).term.kind = 1 ∨ (p.blocks.getD at_.toNat blkNone).term.kind = 2 := by
            rcases htr with h | h | h
            · exact Or.inl h.1
            · exact Or.inr h.1
            · exact absurd h.1 h3
          rw [next_cp hst _ hk12]
          exact run_cp hb n _ 0 s (nextP_label htr h3 s.ts) (Nat.zero_le _) hfit (fun t u e => by (cases e))
theorem cpTrm_P {p : Ir} {f : Int → Option Int} (h : CpOk p f) {t : Trm} (ht : trmP p t) : trmP p (cpTrm f t) := by
  unfold cpTrm
  rcases ht with ⟨h1, h2, h3, h4⟩ | ⟨h1, h2, h3, h4⟩ | ⟨h1, h2, h3, h4⟩
  · rw [if_neg (by omega)]; exact Or.inl ⟨h1, h2, h3, h4⟩
  · rw [if_pos h1]; exact Or.inr (Or.inl ⟨h1, h.of h2, h3, h4⟩)
  · rw [if_neg (by omega)]; exact Or.inr (Or.inr ⟨h1, h2, h3, h4⟩)
/-- What is asked of an operation, of an end, speaks of temps, arrays, and how many blocks there are. -/
theorem opP_like {p q : Ir} (hT : q.temps = p.temps) (ha : q.arrays = p.arrays) {o : Opn} (ho : opP p o) : opP q o := by
  unfold opP fieldP isTemp at *
  rw [hT, ha]; exact ho
theorem trmP_like {p q : Ir} (hT : q.temps = p.temps) (hl : q.blocks.length = p.blocks.length) {t : Trm} (ht : trmP p t) : trmP q t := by
  unfold trmP isTemp labelP at *
  rw [hT, hl]; exact ht
theorem opsSum_map {g : Blk → Blk} (hg : ∀ b, (g b).ops.length = b.ops.length) : ∀ l : List Blk, opsSum (l.map g) = opsSum l
  | [] => rfl
  | b :: l => by rw [List.map_cons, opsSum, opsSum, opsSum_map hg l, hg]
theorem cp_err {p : Ir} (he : irErr p = 0) : irErr (cpIr p) = 0 := by
  obtain ⟨hng, ⟨⟨h1, h2, h3, h4⟩, h5, h6⟩⟩ := irErr_ok he
  have hlen : (p.blocks.map cpBlk).length = p.blocks.length := List.length_map ..
  have hg : ¬ greatP (cpIr p) := by
    unfold greatP at hng ⊢
    show ¬ (1048576 < p.temps ∨ 1048576 < (p.arrays.length : Int) ∨ 1048576 < ((p.blocks.map cpBlk).length : Int) ∨ 1048576 < (opsSum (p.blocks.map cpBlk) : Int) ∨ 65536 < max p.out 0 + railSum p.arrays)
    rw [hlen, opsSum_map (fun b => cpList_len b.ops)]
    exact hng
  have hm : mayP (cpIr p) := by
    refine ⟨⟨h1, h2, h3, ?_⟩, h5, ?_⟩
    · intro e
      have e : p.blocks.map cpBlk = [] := e
      exact h4 (List.map_eq_nil_iff.1 e)
    · intro b hb
      obtain ⟨c, hc, rfl⟩ := List.mem_map.1 (show b ∈ p.blocks.map cpBlk from hb)
      obtain ⟨g1, g2⟩ := h6 c hc
      obtain ⟨k1, k2⟩ := cpList_ok g1
      exact ⟨fun o ho => opP_like (p := p) (q := cpIr p) rfl rfl (k2 o ho), trmP_like (p := p) (q := cpIr p) rfl hlen (cpTrm_P k1 g2)⟩
  unfold irErr
  rw [if_neg hg, if_pos hm]
theorem cp_run {p : Ir} (he : irErr p = 0) (input : ByteArray) (b : Int) (h0 : 0 ≤ b) (h1 : b ≤ 3000) : irRun (cpIr p) input b = irRun p input b := by
  have he2 := cp_err he
  obtain ⟨hng, hm⟩ := irErr_ok he
  by_cases hi : (input.size : Int) = p.inp
  · rw [irRun_go he hi h0 (by omega), irRun_go he2 hi h0 (by omega)]
    obtain ⟨⟨_, _, _, h4⟩, _, h6⟩ := hm
    have hpos : 0 < p.blocks.length := List.length_pos_iff.2 h4
    exact run_cp h6 _ 0 0 _ ⟨by decide, by omega⟩ (Nat.zero_le _) (fit_start p input) (fun t u e => by (cases e))
  · rw [irRun_size he hi, irRun_size he2 hi]
theorem cp_fine {p : Ir} (hf : p.fine) : (cpIr p).fine := by
  obtain ⟨f1, f2, f3, f4, f5, f6, f7⟩ := hf
  refine ⟨f1, f2, f3, f4, by show (p.blocks.map cpBlk).length ≤ _; rw [List.length_map]; exact f5, f6, ?_⟩
  intro b hb
  obtain ⟨c, hc, rfl⟩ := List.mem_map.1 (show b ∈ p.blocks.map cpBlk from hb)
  obtain ⟨g1, g2, g3, g4, g5, g6⟩ := f7 c hc
  have hR : ∀ (l : List Opn) (s : (Int → Option Int) × List Opn), (∀ k v, s.1 k = some v → IntR v) → (∀ o ∈ s.2, o.fine) → (∀ o ∈ l, o.fine) → (∀ k v, (l.foldl cpStep s).1 k = some v → IntR v) ∧ ∀ o ∈ (l.foldl cpStep s).2, o.fine := by
    intro l
    induction l with
    | nil => intro s h1 h2 _; exact ⟨h1, h2⟩
    | cons o l ih =>
      intro s h1 h2 h3
      rw [List.foldl_cons]
      have hof : ∀ t, IntR t → IntR (cpOf s.1 t) := by
        intro t ht
        unfold cpOf
        cases e : s.1 t with
        | none => exact ht
        | some v => exact h1 t v e
      obtain ⟨q1, q2, q3, q4, q5, q6⟩ := h3 o (by simp)
      have hq : (cpOp s.1 o).fine := by
        refine ⟨q1, q2, ?_, ?_, ?_, q6⟩ <;> (unfold cpOp; simp only; split)
        · exact hof _ q3
        · exact q3
        · exact hof _ q4
        · exact q4
        · exact hof _ q5
        · exact q5
      refine ih _ (fun k v e => ?_) (fun x hx => ?_) (fun x hx => h3 x (by simp [hx]))
      · have e : cpMap s.1 (cpOp s.1 o) k = some v := e
        by_cases hd : fDst (cpOp s.1 o).kind = true
        · by_cases hk : k = (cpOp s.1 o).dst
          · rw [hk, cpMap_eq hd] at e
            split at e
            · injection e with e; subst e; exact hq.2.2.1
            · cases e
          · rw [cpMap_ne hd hk] at e
            split at e
            · cases e
            · exact h1 k v e
        · rw [cpMap_no hd] at e; exact h1 k v e
      · rcases List.mem_append.1 (show x ∈ s.2 ++ [cpOp s.1 o] from hx) with hx | hx
        · exact h2 x hx
        · rw [List.mem_singleton.1 hx]; exact hq
  obtain ⟨r1, r2⟩ := hR c.ops (fun _ => none, []) (fun k v e => by (cases e)) (fun o ho => by simp at ho) g2
  refine ⟨by show (cpList c.ops).2.length ≤ _; rw [cpList_len]; exact g1, r2, g3, ?_, g5, g6⟩
  show IntR (if c.term.kind = 2 then cpOf (cpList c.ops).1 c.term.a else c.term.a)
  split
  · unfold cpOf
    cases e : (cpList c.ops).1 c.term.a with
    | none => exact g4
    | some v => exact r1 _ v e
  · exact g4
/-- Is a temp, read behind operations, a copy of one that was not made anew? -/
def staleB (l : List Opn) (t : Int) : Bool := (cpF l t).isSome
/-- No operation of these makes a temp. -/
def noMk (l : List Opn) (t : Int) : Prop := ∀ o ∈ l, fDst o.kind = true → o.dst ≠ t
instance (l : List Opn) (t : Int) : Decidable (noMk l t) := by unfold noMk; infer_instance
theorem cpF_tail (l : List Opn) (t : Int) : ∀ m : List Opn, noMk m t → cpF (l ++ m) t = match cpF l t with
    | none => none
    | some u => if noMk m u then some u else none := by
  have h : ∀ (m : List Opn) (f : Int → Option Int), noMk m t → (m.foldl cpMap f) t = match f t with
      | none => none
      | some u => if noMk m u then some u else none := by
    intro m
    induction m with
    | nil =>
      intro f _
      show f t = _
      cases f t with
      | none => rfl
      | some u =>
        have h0 : noMk [] u := fun o ho => by simp at ho
        simp only
        rw [if_pos h0]
    | cons o m ih =>
      intro f hm
      rw [List.foldl_cons, ih _ (fun x hx => hm x (by simp [hx]))]
      by_cases hd : fDst o.kind = true
      · rw [cpMap_ne hd (fun e => hm o (by simp) hd e.symm)]
        cases e : f t with
        | none => rw [if_neg (by simp)]
        | some u =>
          by_cases hu : u = o.dst
          · subst hu
            rw [if_pos rfl]
            simp only
            have h2 : ¬ noMk (o :: m) o.dst := fun hn => hn o (by simp) hd rfl
            rw [if_neg h2]
          · rw [if_neg (by intro h; injection h with h; exact hu h)]
            simp only
            by_cases hn : noMk m u
            · have h2 : noMk (o :: m) u := fun x hx => by
                rcases List.mem_cons.1 hx with rfl | hx
                · exact fun _ h => hu h.symm
                · exact hn x hx
              rw [if_pos hn, if_pos h2]
            · have h2 : ¬ noMk (o :: m) u := fun h => hn (fun x hx => h x (by simp [hx]))
              rw [if_neg hn, if_neg h2]
      · rw [cpMap_no hd]
        cases e : f t with
        | none => rfl
        | some u =>
          simp only
          by_cases hn : noMk m u
          · have h2 : noMk (o :: m) u := fun x hx => by
              rcases List.mem_cons.1 hx with rfl | hx
              · exact fun h => absurd h hd
              · exact hn x hx
            rw [if_pos hn, if_pos h2]
          · have h2 : ¬ noMk (o :: m) u := fun h => hn (fun x hx => h x (by simp [hx]))
            rw [if_neg hn, if_neg h2]
  intro m hm
  unfold cpF
  rw [List.foldl_append]
  exact h m _ hm
theorem cp_unstale {p : Ir} {l : List Opn} (h : ∀ o ∈ l, opP p o) (t : Int) : staleB (cpList l).2 (cpOf (cpList l).1 t) = false := by
  unfold staleB
  rw [← cpList_fst, cpOf_none (cpList_ok h).1.end_]
  rfl
end Go.Proofs.Ytiaimceefkdchaa
