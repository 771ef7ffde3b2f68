/- Parts of a proof. No condition but those that each theorem names. -/
import Derived.WalkKit
import Derived.OpenShut
import Derived.Below
import Derived.Lib.Hide
import Derived.Laws.OwnMore
import Derived.Deep.QuietTactic
import Derived.Deep.AppendLies
import Derived.ProofKit
import Derived.SizedLaws
import Derived.Test.YthkobddggoojlaaProg
import Derived.Handy
import Derived.Deep.RegionHeld3
import Derived.BigQuiet
import Derived.Maps.AppendAt
import Derived.Maps.RangeWalk
import Derived.Maps.OwnSet
import Derived.StillTailTactics
import Derived.Laws.CopyOwn
import Derived.Lib.BufferWrite
import Derived.OrdersHeld
import Derived.RegionTactic
import Derived.Test.YthkobddggoojlaaTeG0e0
import Derived.Test.YthkobddggoojlaaTeG0e2
import Derived.Test.YthkobddggoojlaaTeG1e7
import Derived.Test.YthkobddggoojlaaTeG0e10
import Derived.Test.YthkobddggoojlaaTeG0e13
import Derived.Test.YthkobddggoojlaaTeG1e15
import Derived.Test.YthkobddggoojlaaTeG1e16
namespace Go.Proofs.Ythkobddggoojlaa
open Go.RowKit
set_option linter.unusedVariables false
def progB (p : Ir) (l : List Blk) : Ir := ⟨p.temps, p.arrays, l, p.inp, p.out⟩
/-- A run that has ended. -/
def RunEnds (p : Ir) (n : Nat) (at_ : Int) (k : Nat) (st : St) : Prop := runP p n at_ k st ≠ (bE, 20)
theorem RunEnds.more {p : Ir} {n : Nat} {at_ : Int} {k : Nat} {st : St} (h : RunEnds p n at_ k st) (m : Nat) : runP p (n + m) at_ k st = runP p n at_ k st := by
  rcases runP_more p m n at_ k st with h1 | h1
  · exact h1.symm
  · exact absurd h1 h
theorem td_ops {p : Ir} {n : Nat} {at_ : Int} {k : Nat} {st : St} (ha : at_ ≠ -1) (hk : k < (tdAt p.blocks at_).ops.length) : runP p (n + 1) at_ k st = match stepP p st ((tdAt p.blocks at_).ops.getD k opNone) with
    | none => (bE, 19)
    | some s' => runP p n at_ (k + 1) s' := by
  rw [runP_succ p n at_ k st ha]
  unfold mStep
  rw [if_pos (show k < (p.blocks.getD at_.toNat blkNone).ops.length from hk)]
  show (match (match stepP p st ((tdAt p.blocks at_).ops.getD k opNone) with | none => Sum.inl (bE, (19 : Int)) | some s' => Sum.inr (at_, k + 1, s')) with | .inl r => r | .inr x => runP p n x.1 x.2.1 x.2.2) = _
  cases stepP p st ((tdAt p.blocks at_).ops.getD k opNone) <;> rfl
theorem td_halt {p : Ir} {n : Nat} {at_ : Int} {k : Nat} {st : St} (ha : at_ ≠ -1) (hk : ¬ k < (tdAt p.blocks at_).ops.length) (h3 : (tdAt p.blocks at_).term.kind = 3) : runP p (n + 1) at_ k st = (outP p st, 0) := by
  rw [runP_succ p n at_ k st ha]
  unfold mStep
  rw [if_neg (show ¬ k < (p.blocks.getD at_.toNat blkNone).ops.length from hk), if_pos (show (p.blocks.getD at_.toNat blkNone).term.kind = 3 from h3)]
theorem td_next {p : Ir} {n : Nat} {at_ : Int} {k : Nat} {st : St} (ha : at_ ≠ -1) (hk : ¬ k < (tdAt p.blocks at_).ops.length) (h3 : ¬ (tdAt p.blocks at_).term.kind = 3) : runP p (n + 1) at_ k st = runP p n (nextP st.ts (tdAt p.blocks at_).term) 0 st := by
  rw [runP_succ p n at_ k st ha]
  unfold mStep
  rw [if_neg (show ¬ k < (p.blocks.getD at_.toNat blkNone).ops.length from hk), if_neg (show ¬ (p.blocks.getD at_.toNat blkNone).term.kind = 3 from h3)]
  rfl
theorem nextP_nam {g : Int → Int} (hg : g (-1) = -1) (ts : List Int) {t : Trm} (hk : t.kind = 1 ∨ t.kind = 2) : nextP ts (tdNam g t) = g (nextP ts t) := by
  unfold nextP
  rw [tdNam_kind]
  unfold tdNam
  rcases hk with hk | hk
  · rw [if_pos hk, if_pos hk, if_pos hk]
  · have h1 : ¬ t.kind = 1 := by omega
    rw [if_neg h1, if_neg h1, if_neg h1, if_pos hk]
    simp only
    split
    · rfl
    · split
      · rfl
      · exact hg.symm
theorem nextP_tg {n : Nat} {ts : List Int} {t : Trm} (h : tdOkT n t) (h3 : ¬ t.kind = 3) : (t.kind = 1 ∨ t.kind = 2) ∧ tdLab n (nextP ts t) ∧ (nextP ts t = -1 ∨ nextP ts t ∈ tdTg t) := by
  unfold nextP tdTg tdOne
  rcases h with ⟨hk, a⟩ | ⟨hk, a, b⟩ | hk
  · refine ⟨Or.inl hk, ?_⟩
    rw [if_pos hk, if_pos hk]
    refine ⟨a, ?_⟩
    by_cases e : t.yes = -1
    · exact Or.inl e
    · right; rw [if_neg e]; simp
  · refine ⟨Or.inr hk, ?_⟩
    have h1 : ¬ t.kind = 1 := by omega
    rw [if_neg h1, if_neg h1, if_pos hk]
    have hm : tdLab n (-1) := by unfold tdLab; omega
    by_cases c1 : rdT ts t.a = 4294967295
    · rw [if_pos c1]
      refine ⟨a, ?_⟩
      by_cases e : t.yes = -1
      · exact Or.inl e
      · right; rw [if_neg e]; simp
    · rw [if_neg c1]
      by_cases c2 : rdT ts t.a = 0
      · rw [if_pos c2]
        refine ⟨b, ?_⟩
        by_cases e : t.no = -1
        · exact Or.inl e
        · right; rw [if_neg e]; simp
      · rw [if_neg c2]; exact ⟨hm, Or.inl rfl⟩
  · exact absurd hk h3
section
variable {p : Ir} {l : List Blk}
theorem td_det {n : Nat} {x : Int} {st : St} (hs : tdStop l x = false) : runP (progB p l) (n + 1) x 0 st = runP (progB p l) n (tdNext l x) 0 st := by
  obtain ⟨h1, h2⟩ := tdStop_false hs
  obtain ⟨h3, h4⟩ := tdDet_true h2
  rw [td_next (p := progB p l) h1 (by show ¬ 0 < (tdAt l x).ops.length; rw [h3]; simp) (by show ¬ (tdAt l x).term.kind = 3; rw [h4]; decide)]
  show runP (progB p l) n (nextP st.ts (tdAt l x).term) 0 st = _
  unfold nextP
  rw [if_pos h4]; rfl
theorem td_ring {st : St} : ∀ (n : Nat) (x : Int), TdRing l x → runP (progB p l) n x 0 st = (bE, 20)
  | 0, x, h => runP_zero _ _ _ _ (tdStop_false (h 0)).1
  | n + 1, x, h => by rw [td_det h.next.1]; exact td_ring n _ h.next.2
theorem tdLeads_at (hl : TdOk l) {x : Int} (hx : tdLab l.length x) {m : Nat} (h : tdStop l (tdPath l m x) = true) : tdLeads l x = tdPath l m x := by
  by_cases h1 : tdStop l (tdPath l l.length x) = true
  · have e : tdLeads l x = tdPath l l.length x := by unfold tdLeads; rw [if_pos h1]
    rw [e]
    rcases Nat.le_total m l.length with h2 | h2
    · exact tdPath_stay h h2
    · exact (tdPath_stay h1 h2).symm
  · rcases tdLeads_cases hl hx with h2 | ⟨h2, _⟩
    · exfalso
      have e : tdLeads l x = x := by unfold tdLeads; rw [if_neg h1]
      rw [e] at h2
      rw [tdPath_fix h2] at h1
      exact h1 h2
    · have := h2 m; rw [h] at this; cases this
theorem td_skip (hl : TdOk l) {st : St} : ∀ (n : Nat) (x : Int), tdLab l.length x → RunEnds (progB p l) n x 0 st → runP (progB p l) n (tdLeads l x) 0 st = runP (progB p l) n x 0 st
  | 0, x, hx, he => by
    cases hs : tdStop l x with
    | true => rw [tdLeads_fix (Or.inl hs)]
    | false => exact absurd (runP_zero _ _ _ _ (tdStop_false hs).1) he
  | n + 1, x, hx, he => by
    cases hs : tdStop l x with
    | true => rw [tdLeads_fix (Or.inl hs)]
    | false =>
      rcases tdLeads_cases hl hx with h1 | ⟨h1, _⟩
      · have hnx := tdNext_lab hl hx hs
        have e1 : tdLeads l x = tdLeads l (tdNext l x) := by
          have h2 : tdStop l (tdPath l l.length x) = true := by
            by_cases h3 : tdStop l (tdPath l l.length x) = true
            · exact h3
            · exfalso
              have e : tdLeads l x = x := by unfold tdLeads; rw [if_neg h3]
              rw [e, hs] at h1; cases h1
          have h4 : tdPath l (1 + l.length) x = tdPath l l.length (tdNext l x) := by
            rw [tdPath_add]
            have : tdPath l 1 x = tdNext l x := by rw [tdPath_succ]; exact tdStep_go hs
            rw [this]
          have h5 : tdStop l (tdPath l (1 + l.length) x) = true := by rw [tdPath_stay h2 (by omega)]; exact h2
          rw [tdLeads_at hl hx h5, h4, tdLeads_at hl hnx (h4 ▸ h5)]
        have e2 := td_det (p := p) (n := n) (st := st) hs
        have he2 : RunEnds (progB p l) n (tdNext l x) 0 st := by unfold RunEnds; rw [← e2]; exact he
        have ih := td_skip hl n _ hnx he2
        rw [e1, e2, ← ih]
        have he3 : RunEnds (progB p l) n (tdLeads l (tdNext l x)) 0 st := by unfold RunEnds; rw [ih]; exact he2
        exact he3.more 1
      · exact absurd (td_ring (n + 1) x h1) he
theorem stepP_progB (l l' : List Blk) (st : St) (o : Opn) : stepP (progB p l) st o = stepP (progB p l') st o := rfl
theorem td_str (hl : TdOk l) : ∀ (n : Nat) (at_ : Int) (k : Nat) (st : St), tdLab l.length at_ → RunEnds (progB p l) n at_ k st → runP (progB p (tdStr l)) n at_ k st = runP (progB p l) n at_ k st
  | 0, at_, k, st, hx, he => by
    by_cases ha : at_ = -1
    · subst ha; rw [runP_none, runP_none]
    · exact absurd (runP_zero _ _ _ _ ha) he
  | n + 1, at_, k, st, hx, he => by
    by_cases ha : at_ = -1
    · subst ha; rw [runP_none, runP_none]
    · obtain ⟨a, b⟩ := tdLab_zero hx ha
      have hat : tdAt (tdStr l) at_ = ⟨(tdAt l at_).ops, tdNam (tdLeads l) (tdAt l at_).term⟩ := tdStr_at l at_.toNat (by omega)
      by_cases hk : k < (tdAt l at_).ops.length
      · have e1 := td_ops (p := progB p l) (n := n) (st := st) ha (show k < (tdAt (progB p l).blocks at_).ops.length from hk)
        have e2 := td_ops (p := progB p (tdStr l)) (n := n) (st := st) ha (show k < (tdAt (tdStr l) at_).ops.length by rw [hat]; exact hk)
        have e3 : (tdAt (progB p (tdStr l)).blocks at_).ops.getD k opNone = (tdAt (progB p l).blocks at_).ops.getD k opNone := by show (tdAt (tdStr l) at_).ops.getD k opNone = _; rw [hat]; rfl
        rw [e3, stepP_progB (tdStr l) l] at e2
        unfold RunEnds at he
        rw [e1] at he ⊢
        rw [e2]
        cases hst : stepP (progB p l) st ((tdAt (progB p l).blocks at_).ops.getD k opNone) with
        | none => rfl
        | some s' =>
          rw [hst] at he
          exact td_str hl n at_ (k + 1) s' hx he
      · by_cases h3 : (tdAt l at_).term.kind = 3
        · rw [td_halt (p := progB p l) ha hk h3, td_halt (p := progB p (tdStr l)) ha (by show ¬ k < (tdAt (tdStr l) at_).ops.length; rw [hat]; exact hk) (by show (tdAt (tdStr l) at_).term.kind = 3; rw [hat]; show (tdNam _ _).kind = 3; rw [tdNam_kind]; exact h3)]
          rfl
        · obtain ⟨hk12, hlab, _⟩ := nextP_tg (ts := st.ts) (hl.at_ at_.toNat (by omega)) h3
          have e1 := td_next (p := progB p l) (n := n) (st := st) ha hk h3
          have e2 := td_next (p := progB p (tdStr l)) (n := n) (st := st) (k := k) ha (by show ¬ k < (tdAt (tdStr l) at_).ops.length; rw [hat]; exact hk) (by show ¬ (tdAt (tdStr l) at_).term.kind = 3; rw [hat]; show ¬ (tdNam _ _).kind = 3; rw [tdNam_kind]; exact h3)
          have e3 : nextP st.ts (tdAt (progB p (tdStr l)).blocks at_).term = tdLeads l (nextP st.ts (tdAt l at_).term) := by
            show nextP st.ts (tdAt (tdStr l) at_).term = _
            rw [hat]; exact nextP_nam (tdLeads_none l) st.ts hk12
          unfold RunEnds at he
          rw [e1] at he ⊢
          rw [e2, e3]
          have hlab2 : tdLab l.length (nextP st.ts (tdAt l at_).term) := hlab
          have he2 : RunEnds (progB p l) n (nextP st.ts (tdAt l at_).term) 0 st := he
          have h5 := td_skip hl n _ hlab2 he2
          have h6 := td_str hl n (tdLeads l (nextP st.ts (tdAt l at_).term)) 0 st (tdLeads_lab hl hlab2) (by unfold RunEnds; rw [h5]; exact he2)
          exact h6.trans h5
/-- A block put behind another: what ends before ends, and makes the same. -/
theorem td_put {cnt : Int → Nat} {s : List Bool} {k : Nat} (h : TdInv cnt l s) (hk : s.getD k false = true) (hc : tdCan cnt l k = true) (c : Nat) (e : tdTo l k = (c : Int)) :
    ∀ (n : Nat) (at_ : Int) (j : Nat) (st : St), tdHere s at_ → RunEnds (progB p l) n at_ j st →
      (at_ ≠ (c : Int) → (at_ = (k : Int) → j ≤ (l.getD k blkNone).ops.length) → runP (progB p (tdPut l k)) n at_ j st = runP (progB p l) n at_ j st) ∧
      (at_ = (c : Int) → runP (progB p (tdPut l k)) n (k : Int) ((l.getD k blkNone).ops.length + j) st = runP (progB p l) n at_ j st) := by
  obtain ⟨c', e', hck, hc0, hcl, hkl, hcs, htg, hno⟩ := h.only hk hc
  have hcc : c' = c := by omega
  subst hcc
  have hk1 := (tdCan_of hc).1
  have hat := tdPut_at (l := l) hkl
  rw [e, Int.toNat_natCast] at hat
  have hatk : tdAt (tdPut l k) (k : Int) = ⟨(l.getD k blkNone).ops ++ (l.getD c' blkNone).ops, (l.getD c' blkNone).term⟩ := by
    show (tdPut l k).getD (k : Int).toNat blkNone = _
    rw [Int.toNat_natCast, hat, if_pos rfl]
  have hkn : (k : Int) ≠ -1 := by omega
  have hcn : (c' : Int) ≠ -1 := by omega
  intro n
  induction n with
  | zero =>
    intro at_ j st hh he
    by_cases ha : at_ = -1
    · subst ha
      exact ⟨fun _ _ => by rw [runP_none, runP_none], fun h9 => absurd h9.symm hcn⟩
    · exact absurd (runP_zero _ _ _ _ ha) he
  | succ n ih =>
    intro at_ j st hh he
    by_cases ha : at_ = -1
    · subst ha
      exact ⟨fun _ _ => by rw [runP_none, runP_none], fun h9 => absurd h9.symm hcn⟩
    · rcases hh with hh | ⟨h0, hs⟩
      · exact absurd hh ha
      · have hlt := h.lt hs
        have hok := h.ok.at_ at_.toNat hlt
        -- whatever comes next is there, and it is c only behind k
        have hnx : ¬ (tdAt l at_).term.kind = 3 → tdHere s (nextP st.ts (tdAt l at_).term) ∧ (at_.toNat ≠ k → nextP st.ts (tdAt l at_).term ≠ (c' : Int)) := fun h3 => by
          obtain ⟨_, hlab, hm⟩ := nextP_tg (ts := st.ts) hok h3
          refine ⟨?_, fun hne hec => ?_⟩
          · rcases hm with hm | hm
            · exact Or.inl hm
            · have := h.here hs hm; exact Or.inr ⟨this.1, this.2.2⟩
          · rcases hm with hm | hm
            · have hm2 : nextP st.ts (tdAt l at_).term = -1 := hm
              omega
            · exact hno at_.toNat hs hne (hec ▸ hm)
        unfold RunEnds at he
        refine ⟨fun hac hjk => ?_, fun hac => ?_⟩
        · by_cases hak : at_ = (k : Int)
          · -- in block k, ahead of what was put behind it
            subst hak
            have hj := hjk rfl
            have hbk : tdAt l (k : Int) = l.getD k blkNone := by show l.getD (k : Int).toNat blkNone = _; rw [Int.toNat_natCast]
            by_cases hjl : j < (l.getD k blkNone).ops.length
            · have e1 := td_ops (p := progB p l) (n := n) (st := st) (k := j) ha (show j < (tdAt l (k : Int)).ops.length by rw [hbk]; exact hjl)
              have e2 := td_ops (p := progB p (tdPut l k)) (n := n) (st := st) (k := j) ha (show j < (tdAt (tdPut l k) (k : Int)).ops.length by rw [hatk]; show j < ((l.getD k blkNone).ops ++ (l.getD c' blkNone).ops).length; rw [List.length_append]; omega)
              have e3 : (tdAt (progB p (tdPut l k)).blocks (k : Int)).ops.getD j opNone = (tdAt (progB p l).blocks (k : Int)).ops.getD j opNone := by
                show (tdAt (tdPut l k) (k : Int)).ops.getD j opNone = (tdAt l (k : Int)).ops.getD j opNone
                rw [hatk, hbk]
                show ((l.getD k blkNone).ops ++ _).getD j opNone = _
                rw [List.getD_eq_getElem?_getD, List.getElem?_append_left hjl, ← List.getD_eq_getElem?_getD]
              rw [e3, stepP_progB (tdPut l k) l] at e2
              rw [e1] at he ⊢
              rw [e2]
              cases hst : stepP (progB p l) st ((tdAt (progB p l).blocks (k : Int)).ops.getD j opNone) with
              | none => rfl
              | some s' =>
                rw [hst] at he
                exact (ih (k : Int) (j + 1) s' (Or.inr ⟨h0, hs⟩) he).1 hac (fun _ => hjl)
            · have hje : j = (l.getD k blkNone).ops.length := by omega
              have hk3 : ¬ (tdAt l (k : Int)).term.kind = 3 := by rw [hbk, hk1]; decide
              have e1 := td_next (p := progB p l) (n := n) (st := st) (k := j) ha (show ¬ j < (tdAt l (k : Int)).ops.length by rw [hbk]; exact hjl) hk3
              have e4 : nextP st.ts (tdAt (progB p l).blocks (k : Int)).term = (c' : Int) := by
                show nextP st.ts (tdAt l (k : Int)).term = _
                unfold nextP
                rw [hbk, if_pos hk1]; exact e
              rw [e4] at e1
              rw [e1] at he ⊢
              have h5 := (ih (c' : Int) 0 st (Or.inr ⟨by omega, by rw [Int.toNat_natCast]; exact hcs⟩) he).2 rfl
              rw [Nat.add_zero, ← hje] at h5
              have h6 : RunEnds (progB p (tdPut l k)) n (k : Int) j st := by unfold RunEnds; rw [h5]; exact he
              rw [h6.more 1, h5]
          · have hak2 : at_.toNat ≠ k := by omega
            have hbb : tdAt (tdPut l k) at_ = tdAt l at_ := by
              show (tdPut l k).getD at_.toNat blkNone = _
              rw [hat, if_neg hak2]; rfl
            by_cases hjl : j < (tdAt l at_).ops.length
            · have e1 := td_ops (p := progB p l) (n := n) (st := st) (k := j) ha (show j < (tdAt l at_).ops.length from hjl)
              have e2 := td_ops (p := progB p (tdPut l k)) (n := n) (st := st) (k := j) ha (show j < (tdAt (tdPut l k) at_).ops.length by rw [hbb]; exact hjl)
              have e3 : (tdAt (progB p (tdPut l k)).blocks at_).ops.getD j opNone = (tdAt (progB p l).blocks at_).ops.getD j opNone := by
                show (tdAt (tdPut l k) at_).ops.getD j opNone = (tdAt l at_).ops.getD j opNone
                rw [hbb]
              rw [e3, stepP_progB (tdPut l k) l] at e2
              rw [e1] at he ⊢
              rw [e2]
              cases hst : stepP (progB p l) st ((tdAt (progB p l).blocks at_).ops.getD j opNone) with
              | none => rfl
              | some s' =>
                rw [hst] at he
                exact (ih at_ (j + 1) s' (Or.inr ⟨h0, hs⟩) he).1 hac (fun h9 => absurd h9 hak)
            · by_cases h3 : (tdAt l at_).term.kind = 3
              · rw [td_halt (p := progB p l) ha hjl h3, td_halt (p := progB p (tdPut l k)) ha (by show ¬ j < (tdAt (tdPut l k) at_).ops.length; rw [hbb]; exact hjl) (by show (tdAt (tdPut l k) at_).term.kind = 3; rw [hbb]; exact h3)]
                rfl
              · have e1 := td_next (p := progB p l) (n := n) (st := st) (k := j) ha (show ¬ j < (tdAt l at_).ops.length from hjl) h3
                have e2 := td_next (p := progB p (tdPut l k)) (n := n) (st := st) (k := j) ha (show ¬ j < (tdAt (tdPut l k) at_).ops.length by rw [hbb]; exact hjl) (show ¬ (tdAt (tdPut l k) at_).term.kind = 3 by rw [hbb]; exact h3)
                have e3 : nextP st.ts (tdAt (progB p (tdPut l k)).blocks at_).term = nextP st.ts (tdAt l at_).term := by
                  show nextP st.ts (tdAt (tdPut l k) at_).term = _
                  rw [hbb]
                obtain ⟨n1, n2⟩ := hnx h3
                rw [e1] at he ⊢
                rw [e2, e3]
                exact (ih _ 0 st n1 he).1 (n2 hak2) (fun _ => Nat.zero_le _)
        · -- in what was put behind k
          subst hac
          have hbc : tdAt l (c' : Int) = l.getD c' blkNone := by show l.getD (c' : Int).toNat blkNone = _; rw [Int.toNat_natCast]
          have hlen : (tdAt (tdPut l k) (k : Int)).ops.length = (l.getD k blkNone).ops.length + (l.getD c' blkNone).ops.length := by rw [hatk]; exact List.length_append
          by_cases hjl : j < (l.getD c' blkNone).ops.length
          · have e1 := td_ops (p := progB p l) (n := n) (st := st) (k := j) ha (show j < (tdAt l (c' : Int)).ops.length by rw [hbc]; exact hjl)
            have e2 := td_ops (p := progB p (tdPut l k)) (n := n) (st := st) (k := (l.getD k blkNone).ops.length + j) hkn (show (l.getD k blkNone).ops.length + j < (tdAt (tdPut l k) (k : Int)).ops.length by rw [hlen]; omega)
            have e3 : (tdAt (progB p (tdPut l k)).blocks (k : Int)).ops.getD ((l.getD k blkNone).ops.length + j) opNone = (tdAt (progB p l).blocks (c' : Int)).ops.getD j opNone := by
              show (tdAt (tdPut l k) (k : Int)).ops.getD _ opNone = (tdAt l (c' : Int)).ops.getD j opNone
              rw [hatk, hbc]
              show ((l.getD k blkNone).ops ++ (l.getD c' blkNone).ops).getD _ opNone = _
              rw [List.getD_eq_getElem?_getD, List.getElem?_append_right (by omega), Nat.add_sub_cancel_left, ← List.getD_eq_getElem?_getD]
            rw [e3, stepP_progB (tdPut l k) l] at e2
            rw [e1] at he ⊢
            rw [e2]
            cases hst : stepP (progB p l) st ((tdAt (progB p l).blocks (c' : Int)).ops.getD j opNone) with
            | none => rfl
            | some s' =>
              rw [hst] at he
              exact (ih (c' : Int) (j + 1) s' (Or.inr ⟨h0, hs⟩) he).2 rfl
          · have hjl2 : ¬ (l.getD k blkNone).ops.length + j < (tdAt (tdPut l k) (k : Int)).ops.length := by rw [hlen]; omega
            have htt : (tdAt (tdPut l k) (k : Int)).term = (tdAt l (c' : Int)).term := by rw [hatk, hbc]
            by_cases h3 : (tdAt l (c' : Int)).term.kind = 3
            · rw [td_halt (p := progB p l) ha (by show ¬ j < (tdAt l (c' : Int)).ops.length; rw [hbc]; exact hjl) h3, td_halt (p := progB p (tdPut l k)) hkn hjl2 (by show (tdAt (tdPut l k) (k : Int)).term.kind = 3; rw [htt]; exact h3)]
              rfl
            · have e1 := td_next (p := progB p l) (n := n) (st := st) (k := j) ha (show ¬ j < (tdAt l (c' : Int)).ops.length by rw [hbc]; exact hjl) h3
              have e2 := td_next (p := progB p (tdPut l k)) (n := n) (st := st) hkn hjl2 (show ¬ (tdAt (tdPut l k) (k : Int)).term.kind = 3 by rw [htt]; exact h3)
              have e3 : nextP st.ts (tdAt (progB p (tdPut l k)).blocks (k : Int)).term = nextP st.ts (tdAt l (c' : Int)).term := by
                show nextP st.ts (tdAt (tdPut l k) (k : Int)).term = _
                rw [htt]
              obtain ⟨n1, n2⟩ := hnx h3
              rw [e1] at he ⊢
              rw [e2, e3]
              exact (ih _ 0 st n1 he).1 (n2 (by rw [Int.toNat_natCast]; exact hck)) (fun _ => Nat.zero_le _)
/-- Blocks numbered anew make the same. -/
theorem td_num {cnt : Int → Nat} {s : List Bool} (h : TdInv cnt l s) : ∀ (n : Nat) (at_ : Int) (j : Nat) (st : St), tdHere s at_ → runP (progB p (tdQ l s)) n (tdNum s at_) j st = runP (progB p l) n at_ j st
  | 0, at_, j, st, hh => by
    rcases hh with rfl | ⟨h0, hs⟩
    · rw [tdNum_none, runP_none, runP_none]
    · rw [runP_zero _ _ _ _ (by rw [tdNum_of h0]; omega), runP_zero _ _ _ _ (by omega)]
  | n + 1, at_, j, st, hh => by
    rcases hh with rfl | ⟨h0, hs⟩
    · rw [tdNum_none, runP_none, runP_none]
    · have hb := h.atNum h0 hs
      have ha : at_ ≠ -1 := by omega
      have hq : tdNum s at_ ≠ -1 := by rw [tdNum_of h0]; omega
      by_cases hjl : j < (tdAt l at_).ops.length
      · have e1 := td_ops (p := progB p l) (n := n) (st := st) (k := j) ha (show j < (tdAt l at_).ops.length from hjl)
        have e2 := td_ops (p := progB p (tdQ l s)) (n := n) (st := st) (k := j) hq (show j < (tdAt (tdQ l s) (tdNum s at_)).ops.length by rw [hb]; exact hjl)
        have e3 : (tdAt (progB p (tdQ l s)).blocks (tdNum s at_)).ops.getD j opNone = (tdAt (progB p l).blocks at_).ops.getD j opNone := by
          show (tdAt (tdQ l s) (tdNum s at_)).ops.getD j opNone = (tdAt l at_).ops.getD j opNone
          rw [hb]
        rw [e3, stepP_progB (tdQ l s) l] at e2
        rw [e1, e2]
        cases stepP (progB p l) st ((tdAt (progB p l).blocks at_).ops.getD j opNone) with
        | none => rfl
        | some s' => exact td_num h n at_ (j + 1) s' (Or.inr ⟨h0, hs⟩)
      · have hjl2 : ¬ j < (tdAt (tdQ l s) (tdNum s at_)).ops.length := by rw [hb]; exact hjl
        by_cases h3 : (tdAt l at_).term.kind = 3
        · rw [td_halt (p := progB p l) ha hjl h3, td_halt (p := progB p (tdQ l s)) hq hjl2 (by show (tdAt (tdQ l s) (tdNum s at_)).term.kind = 3; rw [hb]; show (tdNam _ _).kind = 3; rw [tdNam_kind]; exact h3)]
          rfl
        · obtain ⟨hk12, hlab, hm⟩ := nextP_tg (ts := st.ts) (h.ok.at_ at_.toNat (h.lt hs)) h3
          have e1 := td_next (p := progB p l) (n := n) (st := st) (k := j) ha hjl h3
          have e2 := td_next (p := progB p (tdQ l s)) (n := n) (st := st) (k := j) hq hjl2 (show ¬ (tdAt (tdQ l s) (tdNum s at_)).term.kind = 3 by rw [hb]; show ¬ (tdNam _ _).kind = 3; rw [tdNam_kind]; exact h3)
          have e3 : nextP st.ts (tdAt (progB p (tdQ l s)).blocks (tdNum s at_)).term = tdNum s (nextP st.ts (tdAt l at_).term) := by
            show nextP st.ts (tdAt (tdQ l s) (tdNum s at_)).term = _
            rw [hb]; exact nextP_nam (tdNum_none s) st.ts hk12
          rw [e1, e2, e3]
          refine td_num h n _ 0 st ?_
          rcases hm with hm | hm
          · exact Or.inl hm
          · have := h.here hs hm; exact Or.inr ⟨this.1, this.2.2⟩
end
/-- A tidied program's run. -/
theorem td_runP {p : Ir} (he : irErr p = 0) {s : List Bool} (hs : TdIn (tdStr p.blocks) s) (n : Nat) (st : St) (hn : RunEnds p n 0 0 st) : runP (tdIr p s) n 0 0 st = runP p n 0 0 st := by
  obtain ⟨hl, hpos⟩ := ir_tdOk he
  obtain ⟨hb, h, hlen⟩ := tdIr_blocks he hs
  have hi := td_inv (tdStr_ok hl) (by rw [tdStr_len]; exact hpos) hs
  have ep : p = progB p p.blocks := rfl
  have h1 : runP (progB p (tdStr p.blocks)) n 0 0 st = runP p n 0 0 st := td_str hl n 0 0 st (by unfold tdLab; omega) hn
  have h2 := (tdJoin_all (cnt := tdCnt (tdStr p.blocks) s) (fun m z => runP (progB p z.1) n 0 0 st = runP p n 0 0 st) (tdStr p.blocks) s hi h1
    (fun m z h _ => h)
    (fun m l' s' hi' hm hc hq => by
      obtain ⟨c, e, hck, hc0, hcl, hkl, hcs, _⟩ := hi'.only hm hc
      have hq : runP (progB p l') n 0 0 st = runP p n 0 0 st := hq
      have he2 : RunEnds (progB p l') n 0 0 st := by unfold RunEnds; rw [hq]; exact hn
      have h9 := (td_put (p := p) hi' hm hc c e n 0 0 st (Or.inr ⟨Int.le_refl _, hi'.zero⟩) he2).1 (by omega) (fun _ => Nat.zero_le _)
      exact h9.trans hq)
    (fun m l' s' _ _ _ h => h) p.blocks.length).2
  have e3 : tdIr p s = progB p (tdQ (tdZ p s).1 (tdZ p s).2) := by
    have e4 : tdIr p s = progB p (tdIr p s).blocks := rfl
    rw [e4, hb]
  have h3 := td_num (p := p) h.inv n 0 0 st (Or.inr ⟨Int.le_refl _, h.inv.zero⟩)
  have e0 : tdNum (tdZ p s).2 0 = 0 := rfl
  rw [e0] at h3
  rw [e3, h3]
  exact h2
theorem td_run {p : Ir} (he : irErr p = 0) {s : List Bool} (hs : TdIn (tdStr p.blocks) s) (input : ByteArray) (b : Int) (h0 : 0 ≤ b) (h1 : b ≤ 3000) : (irRun p input b).2 = 20 ∨ irRun (tdIr p s) input b = irRun p input b := by
  have he2 := td_err he hs
  by_cases hi : (input.size : Int) = p.inp
  · rw [irRun_go he hi h0 (by omega), irRun_go (p := tdIr p s) he2 hi h0 (by omega)]
    by_cases h : runP p b.toNat 0 0 (startP p input) = (bE, 20)
    · left; rw [h]
    · right; exact td_runP he hs _ _ h
  · rw [irRun_size he hi, irRun_size (p := tdIr p s) he2 hi]; exact Or.inr rfl
end Go.Proofs.Ythkobddggoojlaa
