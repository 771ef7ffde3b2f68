/- A program with its temps numbered from the other end makes the same. Plain facts. -/
import Derived.Test.YtiaimceefkdchaaTurnA
import Derived.Test.YtiaimceefkdchaaRunI
namespace Go.Proofs.Ytiaimceefkdchaa
open Go.RowKit
set_option linter.unusedVariables false
structure TR (T : Int) (a b : List Int) : Prop where
  la : a.length = T.toNat
  lb : T.toNat ≤ b.length
  at_ : ∀ i : Nat, i < T.toNat → b.getD (T.toNat - 1 - i) 0 = a.getD i 0
theorem TR.rd {T : Int} {a b : List Int} (h : TR T a b) (t : Int) (h0 : 0 ≤ t) (h1 : t < T) : rdT b (T - 1 - t) = rdT a t := by
  unfold rdT
  rw [show (T - 1 - t).toNat = T.toNat - 1 - t.toNat by omega]
  exact h.at_ t.toNat (by omega)
theorem TR.set {T : Int} {a b : List Int} (h : TR T a b) (t : Int) (h0 : 0 ≤ t) (h1 : t < T) (v : Int) : TR T (a.set t.toNat v) (b.set (T - 1 - t).toNat v) := by
  have hla := h.la
  have hlb := h.lb
  refine ⟨by simpa using hla, by simpa using hlb, fun i hi => ?_⟩
  by_cases e : i = t.toNat
  · subst e
    rw [show T.toNat - 1 - t.toNat = (T - 1 - t).toNat by omega, getD_set_self _ _ _ _ (by omega), getD_set_self _ _ _ _ (by omega)]
  · rw [getD_set_ne _ _ _ _ _ (by omega), getD_set_ne _ _ _ _ _ (fun h => e h.symm)]
    exact h.at_ i hi
theorem TR.src {p : Ir} {a b : List Int} (h : TR p.temps a b) (o : Opn) (j : Nat) (t : Int) (ht : fieldP p (decide (j < fSrc o.kind)) t) : srcP b (turnOp p o) j (turnT p (decide (j < fSrc o.kind)) t) = srcP a o j t := by
  unfold srcP
  show (if j < fSrc o.kind then _ else _) = _
  by_cases hj : j < fSrc o.kind
  · rw [if_pos hj, if_pos hj]
    rw [decide_eq_true hj] at ht ⊢
    unfold turnT
    rw [if_pos rfl]
    exact h.rd t ht.1 ht.2
  · rw [if_neg hj, if_neg hj]
/-- The program, with one temp and one block more. -/
def turnExt (q : Ir) : Ir := ⟨q.temps + 1, q.arrays, q.blocks ++ [⟨[⟨1, q.temps, 0, 0, 0, 1⟩], ⟨1, 0, 0, 0⟩⟩], q.inp, q.out⟩
def turnAll (p : Ir) : Ir := if (p.blocks.length : Int) < 1000 ∧ p.temps < 1000 then turnExt (turnIr p) else turnIr p
/-- What is asked of a program that a turned one lies in. -/
structure TurnIn (p q : Ir) : Prop where
  tmp : p.temps ≤ q.temps
  arr : q.arrays = p.arrays
  inp : q.inp = p.inp
  out : q.out = p.out
  len : p.blocks.length ≤ q.blocks.length
  blk : ∀ k, k < p.blocks.length → q.blocks.getD k blkNone = turnBlk p (p.blocks.getD k blkNone)
theorem turnIr_blk (p : Ir) (k : Nat) (h : k < p.blocks.length) : (turnIr p).blocks.getD k blkNone = turnBlk p (p.blocks.getD k blkNone) := by
  unfold turnIr
  simp only
  rw [List.getD_eq_getElem?_getD, List.getElem?_map, getD_some p.blocks k blkNone h]; rfl
theorem turnAll_in (p : Ir) : TurnIn p (turnAll p) := by
  unfold turnAll
  split
  · refine ⟨by show p.temps ≤ p.temps + 1; omega, rfl, rfl, rfl, by simp [turnExt, turnIr], fun k hk => ?_⟩
    unfold turnExt
    simp only
    rw [List.getD_eq_getElem?_getD, List.getElem?_append_left (by simpa [turnIr] using hk), ← List.getD_eq_getElem?_getD]
    exact turnIr_blk p k hk
  · exact ⟨Int.le_refl _, rfl, rfl, rfl, by simp [turnIr], turnIr_blk p⟩
def SR (p : Ir) (s s' : St) : Prop := TR p.temps s.ts s'.ts ∧ s'.mem = s.mem
theorem step_turn {p q : Ir} (h : TurnIn p q) {s s' : St} (hs : SR p s s') {o : Opn} (ho : opP p o) : (stepP p s o = none ∧ stepP q s' (turnOp p o) = none) ∨ ∃ u u', stepP p s o = some u ∧ stepP q s' (turnOp p o) = some u' ∧ SR p u u' := by
  obtain ⟨hT, hM⟩ := hs
  obtain ⟨o1, o2, o4, o5, o6, o7, o8⟩ := ho
  have e0 := hT.src o 0 o.a o5
  have e1 := hT.src o 1 o.b o6
  have e2 := hT.src o 2 o.c o7
  have ep : pureP s'.ts (turnOp p o) = pureP s.ts o := by
    unfold pureP
    show valP (turnOp p o) (srcP s'.ts (turnOp p o) 0 (turnT p (decide (0 < fSrc o.kind)) o.a)) (srcP s'.ts (turnOp p o) 1 (turnT p (decide (1 < fSrc o.kind)) o.b)) (srcP s'.ts (turnOp p o) 2 (turnT p (decide (2 < fSrc o.kind)) o.c)) = _
    rw [e0, e1, e2]; rfl
  have hdst : fDst o.kind = true → 0 ≤ o.dst ∧ o.dst < p.temps := fun hd => by rw [hd] at o4; exact o4
  have htd : fDst o.kind = true → (turnOp p o).dst = p.temps - 1 - o.dst := fun hd => by unfold turnOp turnT; simp only; rw [hd, if_pos rfl]
  cases hp : pureP s.ts o with
  | some v =>
    right
    have hd : fDst o.kind = true := by
      have hk : o.kind ≤ 17 := by
        refine Decidable.byContradiction fun hk => ?_
        have hn : pureP s.ts o = none := by
          unfold pureP valP
          rw [if_neg (by omega), if_neg (by omega), if_neg (by omega), if_neg (by omega), if_neg (by omega), if_neg (by omega), if_neg (by omega), if_neg (by omega), if_neg (by omega), if_neg (by omega), if_neg (by omega), if_neg (by omega), if_neg (by omega), if_neg (by omega), if_neg (by omega), if_neg (by omega), if_neg (by omega)]
        rw [hn] at hp; cases hp
      unfold fOk at o1
      unfold fDst
      simp only [decide_eq_true_eq] at o1 ⊢
      omega
    refine ⟨_, _, step_pure hp, step_pure (ep.trans hp), ?_, hM⟩
    rw [htd hd]
    exact hT.set o.dst (hdst hd).1 (hdst hd).2 _
  | none =>
    have hp' := ep.trans hp
    have ha : srcP s'.ts (turnOp p o) 0 (turnOp p o).a = srcP s.ts o 0 o.a := e0
    have hb : srcP s'.ts (turnOp p o) 1 (turnOp p o).b = srcP s.ts o 1 o.b := e1
    by_cases htr : ((s.mem.getD o.imm.toNat []).length : Int) ≤ srcP s.ts o 0 o.a
    · left
      exact ⟨step_trap hp htr, step_trap hp' (by rw [ha, hM]; exact htr)⟩
    · right
      by_cases hk : o.kind = 18
      · have hd : fDst o.kind = true := by unfold fDst; rw [decide_eq_true_eq]; omega
        refine ⟨_, _, step_load hp htr hk, step_load hp' (by rw [ha, hM]; exact htr) hk, ?_, hM⟩
        show TR p.temps (s.ts.set o.dst.toNat ((s.mem.getD o.imm.toNat []).getD (srcP s.ts o 0 o.a).toNat 0)) (s'.ts.set (turnOp p o).dst.toNat ((s'.mem.getD o.imm.toNat []).getD (srcP s'.ts (turnOp p o) 0 (turnOp p o).a).toNat 0))
        rw [htd hd, ha, hM]
        exact hT.set o.dst (hdst hd).1 (hdst hd).2 _
      · refine ⟨_, _, step_store hp htr hk, step_store hp' (by rw [ha, hM]; exact htr) hk, hT, ?_⟩
        show s'.mem.set o.imm.toNat ((s'.mem.getD o.imm.toNat []).set (srcP s'.ts (turnOp p o) 0 (turnOp p o).a).toNat (if (q.arrays.getD o.imm.toNat arrNone).elem = 1 then srcP s'.ts (turnOp p o) 1 (turnOp p o).b % 256 else srcP s'.ts (turnOp p o) 1 (turnOp p o).b)) = _
        rw [ha, hb, hM, h.arr]
theorem next_turn {p q : Ir} {s s' : St} (hs : SR p s s') {t : Trm} (ht : trmP p t) (hk : t.kind ≠ 3) : nextP s'.ts (turnTrm p t) = nextP s.ts t := by
  unfold nextP
  show (if t.kind = 1 then t.yes else if rdT s'.ts (turnT p (decide (t.kind = 2)) t.a) = _ then t.yes else if rdT s'.ts (turnT p (decide (t.kind = 2)) t.a) = 0 then t.no else -1) = _
  rcases ht with ⟨h, _⟩ | ⟨h, h2, _⟩ | ⟨h, h2, _⟩
  · rw [if_pos h, if_pos h]
  · rw [decide_eq_true h]
    unfold turnT
    rw [if_pos rfl, hs.1.rd t.a h2.1 h2.2]
  · exact absurd h hk
theorem out_turn {p q : Ir} (h : TurnIn p q) {s s' : St} (hs : SR p s s') : outP q s' = outP p s := by
  unfold outP outGo
  rw [h.arr, h.out, hs.2]
theorem getD_mapI {T U : Type} (f : T → U) (l : List T) (k : Nat) (d : T) (d' : U) (h : k < l.length) : (l.map f).getD k d' = f (l.getD k d) := by
  rw [List.getD_eq_getElem?_getD, List.getElem?_map, getD_some l k d h]; rfl
theorem run_turn {p q : Ir} (h : TurnIn p q) (hb : ∀ b ∈ p.blocks, blkP p b) : ∀ (n : Nat) (at_ : Int) (k : Nat) (s s' : St), labelP p at_ → SR p s s' → runP q n at_ k s' = runP p n at_ k s
  | 0, at_, k, s, s', hl, hs => by
    by_cases ha : at_ = -1
    · subst ha; rw [runP_none, runP_none]
    · rw [runP_zero _ _ _ _ ha, runP_zero _ _ _ _ ha]
  | n + 1, at_, k, s, s', hl, hs => by
    by_cases ha : at_ = -1
    · subst ha; rw [runP_none, runP_none]
    · obtain ⟨l0, l1⟩ := hl
      have hlt : at_.toNat < p.blocks.length := by omega
      obtain ⟨hop, htr⟩ := hb _ (getD_memI p.blocks at_.toNat blkNone hlt)
      have hq := h.blk at_.toNat hlt
      have hol : (q.blocks.getD at_.toNat blkNone).ops.length = (p.blocks.getD at_.toNat blkNone).ops.length := by rw [hq]; unfold turnBlk; simp
      rw [runP_succ _ _ _ _ _ ha, runP_succ _ _ _ _ _ ha]
      have hm : (∃ r, mStep p at_ k s = .inl r ∧ mStep q at_ k s' = .inl r) ∨ ∃ (x : Int × Nat) (u u' : St), mStep p at_ k s = .inr (x.1, x.2, u) ∧ mStep q at_ k s' = .inr (x.1, x.2, u') ∧ labelP p x.1 ∧ SR p u u' := by
        unfold mStep
        rw [hol]
        by_cases hk : k < (p.blocks.getD at_.toNat blkNone).ops.length
        · rw [if_pos hk, if_pos hk]
          have hoq : (q.blocks.getD at_.toNat blkNone).ops.getD k opNone = turnOp p ((p.blocks.getD at_.toNat blkNone).ops.getD k opNone) := by
            rw [hq]; unfold turnBlk; exact getD_mapI _ _ _ _ _ hk
          rw [hoq]
          rcases step_turn h hs (hop _ (getD_memI _ k opNone hk)) with ⟨e1, e2⟩ | ⟨u, u', e1, e2, e3⟩
          · rw [e1, e2]; exact Or.inl ⟨_, rfl, rfl⟩
          · rw [e1, e2]; exact Or.inr ⟨(at_, k + 1), u, u', rfl, rfl, ⟨l0, l1⟩, e3⟩
        · rw [if_neg hk, if_neg hk]
          have htq : (q.blocks.getD at_.toNat blkNone).term = turnTrm p (p.blocks.getD at_.toNat blkNone).term := by rw [hq]; rfl
          rw [htq]
          show ((∃ r : ByteArray × Int, (if (p.blocks.getD at_.toNat blkNone).term.kind = 3 then _ else _) = _ ∧ (if (p.blocks.getD at_.toNat blkNone).term.kind = 3 then _ else _) = _) ∨ ∃ (x : Int × Nat) (u u' : St), (if (p.blocks.getD at_.toNat blkNone).term.kind = 3 then _ else _) = _ ∧ (if (p.blocks.getD at_.toNat blkNone).term.kind = 3 then _ else _) = _ ∧ _)
          by_cases h3 : (p.blocks.getD at_.toNat blkNone).term.kind = 3
          · rw [if_pos h3, if_pos h3]
            exact Or.inl ⟨_, rfl, by rw [out_turn h hs]⟩
          · rw [if_neg h3, if_neg h3]
            refine Or.inr ⟨(nextP s.ts (p.blocks.getD at_.toNat blkNone).term, 0), s, s', rfl, ?_, nextP_label htr h3 s.ts, hs⟩
            rw [next_turn (q := q) hs htr h3]
      rcases hm with ⟨r, e1, e2⟩ | ⟨x, u, u', e1, e2, e3, e4⟩
      · rw [e1, e2]
      · rw [e1, e2]
        exact run_turn h hb n x.1 x.2 u u' e3 e4
theorem start_turn {p q : Ir} (h : TurnIn p q) (input : ByteArray) : SR p (startP p input) (startP q input) := by
  refine ⟨⟨by simp [startP], ?_, fun i hi => ?_⟩, ?_⟩
  · have := h.tmp
    simp only [startP, List.length_replicate]; omega
  · have := h.tmp
    simp only [startP]
    rw [List.getD_eq_getElem?_getD, List.getD_eq_getElem?_getD, List.getElem?_replicate, List.getElem?_replicate, if_pos (by omega), if_pos (by omega)]
  · simp only [startP, h.arr]
theorem opP_turn {p q : Ir} (hT : p.temps ≤ q.temps) (ha : q.arrays = p.arrays) {o : Opn} (ho : opP p o) : opP q (turnOp p o) := by
  obtain ⟨o1, o2, o4, o5, o6, o7, o8⟩ := ho
  have hf : ∀ (b : Bool) (t : Int), fieldP p b t → fieldP q b (turnT p b t) := by
    intro b t ht
    cases b with
    | false => unfold fieldP turnT; simp
    | true =>
      obtain ⟨h0, h1⟩ := ht
      unfold fieldP turnT isTemp
      simp
      omega
  refine ⟨o1, o2, hf _ _ o4, hf _ _ o5, hf _ _ o6, hf _ _ o7, ?_⟩
  intro hk
  rw [ha]
  exact o8 hk
theorem trmP_turn {p q : Ir} (hT : p.temps ≤ q.temps) (hl : p.blocks.length ≤ q.blocks.length) {t : Trm} (ht : trmP p t) : trmP q (turnTrm p t) := by
  have hlab : ∀ n, labelP p n → labelP q n := by intro n ⟨h0, h1⟩; exact ⟨h0, by omega⟩
  rcases ht with ⟨h, h2, h3, h4⟩ | ⟨h, h2, h3, h4⟩ | ⟨h, h2, h3, h4⟩
  · refine Or.inl ⟨h, ?_, h3, hlab _ h4⟩
    unfold turnTrm turnT; simp only; rw [decide_eq_false (by omega), if_neg (by decide)]
  · refine Or.inr (Or.inl ⟨h, ?_, hlab _ h3, hlab _ h4⟩)
    unfold turnTrm turnT isTemp; simp only; rw [decide_eq_true h, if_pos rfl]
    obtain ⟨a0, a1⟩ := h2
    omega
  · refine Or.inr (Or.inr ⟨h, ?_, h3, h4⟩)
    unfold turnTrm turnT; simp only; rw [decide_eq_false (by omega), if_neg (by decide)]
theorem turnAll_may {p : Ir} (hm : mayP p) : mayP (turnAll p) := by
  have hin := turnAll_in p
  obtain ⟨⟨h1, h2, h3, h4⟩, h5, h6⟩ := hm
  refine ⟨⟨by rw [hin.inp]; exact h1, by rw [hin.out]; exact h2, by have := hin.tmp; omega, ?_⟩, by rw [hin.inp, hin.out, hin.arr]; exact h5, ?_⟩
  · intro e
    have := hin.len
    rw [e] at this
    exact h4 (List.length_eq_zero_iff.1 (by simpa using this))
  · intro b hb
    have hmap : ∀ b ∈ p.blocks.map (turnBlk p), blkP (turnAll p) b := by
      intro b hb
      obtain ⟨c, hc, rfl⟩ := List.mem_map.1 hb
      obtain ⟨c1, c2⟩ := h6 c hc
      refine ⟨fun o ho => ?_, trmP_turn hin.tmp hin.len c2⟩
      obtain ⟨o', ho', rfl⟩ := List.mem_map.1 ho
      exact opP_turn hin.tmp hin.arr (c1 o' ho')
    by_cases hc : (p.blocks.length : Int) < 1000 ∧ p.temps < 1000
    · have e : turnAll p = turnExt (turnIr p) := by unfold turnAll; rw [if_pos hc]
      have hmem : b ∈ p.blocks.map (turnBlk p) ++ [⟨[⟨1, p.temps, 0, 0, 0, 1⟩], ⟨1, 0, 0, 0⟩⟩] := by rw [e] at hb; exact hb
      rcases List.mem_append.1 hmem with hb | hb
      · exact hmap b hb
      · rw [List.mem_singleton.1 hb, e]
        refine ⟨fun o ho => ?_, Or.inl ⟨rfl, rfl, rfl, ?_⟩⟩
        · rw [List.mem_singleton.1 ho]
          refine ⟨rfl, ⟨by show (0 : Int) ≤ 1; decide, by show (1 : Int) ≤ 4294967295; decide⟩, ?_, rfl, rfl, rfl, ?_⟩
          · show 0 ≤ p.temps ∧ p.temps < p.temps + 1; omega
          · intro hk; simp at hk
        · refine ⟨by show (-1 : Int) ≤ 0; decide, ?_⟩
          show (0 : Int) < ((p.blocks.map (turnBlk p) ++ [(⟨[⟨1, p.temps, 0, 0, 0, 1⟩], ⟨1, 0, 0, 0⟩⟩ : Blk)]).length : Int)
          rw [List.length_append]; simp
    · have e : turnAll p = turnIr p := by unfold turnAll; rw [if_neg hc]
      have hb2 : b ∈ p.blocks.map (turnBlk p) := by rw [e] at hb; exact hb
      exact hmap b hb2
theorem turn_law {p : Ir} (he : irErr p = 0) (input : ByteArray) (b : Int) (h0 : 0 ≤ b) (h1 : b ≤ 3000) :
    (irErr (turnAll p) = 0 ∧ irRun (turnAll p) input b = irRun p input b) ∨ irErr (turnAll p) = 18 := by
  obtain ⟨hng, hm⟩ := irErr_ok he
  have hm2 := turnAll_may hm
  by_cases hg : greatP (turnAll p)
  · right; unfold irErr; rw [if_pos hg]
  · left
    have he2 : irErr (turnAll p) = 0 := by unfold irErr; rw [if_neg hg, if_pos hm2]
    refine ⟨he2, ?_⟩
    have hin := turnAll_in p
    by_cases hi : (input.size : Int) = p.inp
    · rw [irRun_go he hi h0 (by omega), irRun_go he2 (by rw [hin.inp]; exact hi) h0 (by omega)]
      obtain ⟨⟨_, _, _, h4⟩, _, h6⟩ := hm
      have hpos : 0 < p.blocks.length := List.length_pos_iff.2 h4
      exact run_turn hin h6 _ 0 0 _ _ ⟨by decide, by omega⟩ (start_turn hin input)
    · rw [irRun_size he hi, irRun_size he2 (by rw [hin.inp]; exact hi)]
theorem turn_fine {p : Ir} (hf : p.fine) (hm : mayP p) (hT : p.temps ≤ 1048576) (hn : p.blocks.length ≤ 1048576) : (turnAll p).fine := by
  obtain ⟨f1, f2, f3, f4, f5, f6, f7⟩ := hf
  have hin := turnAll_in p
  obtain ⟨⟨_, _, hT0, _⟩, _, h6⟩ := hm
  have hsmall : ∀ n : Int, -1 ≤ n → n ≤ 1048577 → IntR n := fun n h0 h1 => by unfold IntR; omega
  have hmap : ∀ b ∈ p.blocks.map (turnBlk p), b.fine := by
    intro b hb
    obtain ⟨c, hc, rfl⟩ := List.mem_map.1 hb
    obtain ⟨g1, g2, g3⟩ := f7 c hc
    obtain ⟨m1, m2⟩ := h6 c hc
    have ht : ∀ (b : Bool) (t : Int), fieldP p b t → IntR (turnT p b t) := by
      intro b t h
      cases b with
      | false => exact hsmall 0 (by decide) (by decide)
      | true =>
        obtain ⟨h0, h1⟩ := h
        unfold turnT
        rw [if_pos rfl]
        exact hsmall _ (by omega) (by omega)
    refine ⟨by simpa [turnBlk] using g1, fun o ho => ?_, ?_⟩
    · obtain ⟨o', ho', rfl⟩ := List.mem_map.1 ho
      obtain ⟨q1, q2, q4, q5, q6, q7, q8⟩ := m1 o' ho'
      obtain ⟨r1, r2, r3, r4, r5, r6⟩ := g2 o' ho'
      exact ⟨r1, ht _ _ q4, ht _ _ q5, ht _ _ q6, ht _ _ q7, r6⟩
    · obtain ⟨r1, r2, r3, r4⟩ := g3
      refine ⟨r1, ?_, r3, r4⟩
      show IntR (turnT p (decide (c.term.kind = 2)) c.term.a)
      refine ht _ _ ?_
      rcases m2 with ⟨h, h2, _⟩ | ⟨h, h2, _⟩ | ⟨h, h2, _⟩
      · rw [decide_eq_false (by omega), h2]; rfl
      · rw [decide_eq_true h]; exact h2
      · rw [decide_eq_false (by omega), h2]; rfl
  have h0 := intR_small 0 (by decide) (by decide)
  have h1 := intR_small 1 (by decide) (by decide)
  unfold turnAll
  split
  · refine ⟨hsmall _ (by show -1 ≤ p.temps + 1; omega) (by show p.temps + 1 ≤ 1048577; omega), f2, f3, f4, ?_, f6, ?_⟩
    · show (p.blocks.map (turnBlk p) ++ [(⟨[⟨1, p.temps, 0, 0, 0, 1⟩], ⟨1, 0, 0, 0⟩⟩ : Blk)]).length ≤ _
      rw [List.length_append, List.length_map]; simp; omega
    · intro b hb
      rcases List.mem_append.1 (show b ∈ p.blocks.map (turnBlk p) ++ [⟨[⟨1, p.temps, 0, 0, 0, 1⟩], ⟨1, 0, 0, 0⟩⟩] from hb) with hb | hb
      · exact hmap b hb
      · rw [List.mem_singleton.1 hb]
        refine ⟨by show 1 ≤ 4398046511104; decide, fun o ho => ?_, h1, h0, h0, h0⟩
        rw [List.mem_singleton.1 ho]
        exact ⟨h1, f1, h0, h0, h0, h1⟩
  · exact ⟨f1, f2, f3, f4, by simpa [turnIr] using f5, f6, hmap⟩
end Go.Proofs.Ytiaimceefkdchaa
