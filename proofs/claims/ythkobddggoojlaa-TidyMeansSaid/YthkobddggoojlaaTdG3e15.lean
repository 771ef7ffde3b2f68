/- Parts of a proof, joined. No condition but those that each theorem names. -/
import Derived.WalkKit
import Derived.OpenShut
import Derived.Below
import Derived.Lib.Hide
import Derived.Laws.OwnMore
import Derived.Deep.QuietTactic
import Derived.Deep.AppendLies
import Derived.ProofKit
import Derived.SizedLaws
import Derived.Test.YthkobddggoojlaaProg
import Derived.Handy
import Derived.Deep.RegionHeld3
import Derived.BigQuiet
import Derived.Maps.AppendAt
import Derived.Maps.RangeWalk
import Derived.Maps.OwnSet
import Derived.StillTailTactics
import Derived.Laws.CopyOwn
import Derived.Lib.BufferWrite
import Derived.OrdersHeld
import Derived.RegionTactic
import Derived.Test.YthkobddggoojlaaTdIr
import Derived.Test.YthkobddggoojlaaTdG1e2
import Derived.Test.YthkobddggoojlaaTdG2e6
import Derived.Test.YthkobddggoojlaaTdG1e14
import Derived.Test.YthkobddggoojlaaTdG2e15
import Derived.Test.YthkobddggoojlaaTdTdD
import Derived.Test.YthkobddggoojlaaTdTdE
import Derived.Test.YthkobddggoojlaaTdG2e14
namespace Go.Proofs.Ythkobddggoojlaa
open Go.RowKit
set_option linter.unusedVariables false
theorem trmP_tdOk {p : Ir} {t : Trm} (h : trmP p t) : tdOkT p.blocks.length t := by
  rcases h with ⟨h1, _, _, h2⟩ | ⟨h1, _, h2, h3⟩ | ⟨h1, _⟩
  · exact Or.inl ⟨h1, h2⟩
  · exact Or.inr (Or.inl ⟨h1, h2, h3⟩)
  · exact Or.inr (Or.inr h1)
theorem ir_tdOk {p : Ir} (he : irErr p = 0) : TdOk p.blocks ∧ 0 < p.blocks.length := by
  obtain ⟨_, ⟨_, _, _, h4⟩, _, h6⟩ := irErr_ok he
  exact ⟨fun b hb => trmP_tdOk (h6 b hb).2, List.length_pos_iff.2 h4⟩
section
variable {l : List Blk} {s : List Bool}
theorem td_inv (hl : TdOk l) (hn : 0 < l.length) (hs : TdIn l s) : TdInv (tdCnt l s) l s := ⟨hs.1, hs.zero hn, hl, hs.closed hl hn, fun _ _ => rfl⟩
theorem tdCan_put {cnt : Int → Nat} {k j : Nat} (hk : k < l.length) (hj : j ≠ k) : tdCan cnt (tdPut l k) j = tdCan cnt l j := by
  unfold tdCan tdTo
  rw [tdPut_at hk, if_neg hj]
/-- Behind all that may be put behind others, the blocks are tidy. -/
theorem td_end (hl : TdOk l) (hn : 0 < l.length) (hs : TdIn (tdStr l) s) :
    TdEnd (tdCnt (tdStr l) s) (tdJoinTo (tdCnt (tdStr l) s) (tdStr l, s) l.length).1 (tdJoinTo (tdCnt (tdStr l) s) (tdStr l, s) l.length).2 ∧ (tdJoinTo (tdCnt (tdStr l) s) (tdStr l, s) l.length).1.length = l.length := by
  have hi := td_inv (tdStr_ok hl) (by rw [tdStr_len]; exact hn) hs
  have h := tdJoin_all (cnt := tdCnt (tdStr l) s) (fun m z => z.1.length = l.length ∧ TdGood z.1 z.2 ∧ (∀ i, z.2.getD i false = true → TdReach z.1 i) ∧ ∀ j, j < m → z.2.getD j false = true → tdCan (tdCnt (tdStr l) s) z.1 j = false) (tdStr l) s hi
    ⟨tdStr_len l, tdStr_good hl s (by rw [hs.1, tdStr_len]), fun i hi => (hs.2 i (by have := flag_lt hi; rw [hs.1] at this; exact this)).1 hi, fun j hj => by omega⟩
    (fun m z ⟨h1, h2, h3, h4⟩ h5 => ⟨h1, h2, h3, fun j hj hjs => by
      by_cases e : j = m
      · rw [e, h5] at hjs; cases hjs
      · exact h4 j (by omega) hjs⟩)
    (fun m l' s' hi' hm hc ⟨h1, h2, h3, h4⟩ => by
      refine ⟨by rw [tdPut_len]; exact h1, TdGood.put hi' h2 hm hc, TdReach.put hi' h3 hm hc, fun j hj hjs => ?_⟩
      obtain ⟨c, e, _, _, hcl, _, _⟩ := hi'.only hm hc
      rw [e, Int.toNat_natCast] at hjs
      rw [tdCan_put (hi'.lt hm) (by omega)]
      exact h4 j hj ((flag_set (by rw [hi'.len]; exact hcl)).1 hjs).2)
    (fun m l' s' hi' hm hc ⟨h1, h2, h3, h4⟩ => ⟨h1, h2, h3, fun j hj hjs => by
      by_cases e : j = m
      · rw [e]; exact hc
      · exact h4 j (by omega) hjs⟩) l.length
  obtain ⟨h0, h1, h2, h3, h4⟩ := h
  exact ⟨⟨h0, h2, h3, fun i hi => h4 i (by have := h0.lt hi; rw [h1] at this; exact this) hi⟩, h1⟩
end
/-- A tidied program is tidied to itself. -/
theorem tdIr_blocks {p : Ir} (he : irErr p = 0) {s : List Bool} (hs : TdIn (tdStr p.blocks) s) : (tdIr p s).blocks = tdQ (tdZ p s).1 (tdZ p s).2 ∧ TdEnd (tdCnt (tdStr p.blocks) s) (tdZ p s).1 (tdZ p s).2 ∧ (tdZ p s).1.length = p.blocks.length := by
  obtain ⟨hl, hn⟩ := ir_tdOk he
  obtain ⟨h1, h2⟩ := td_end hl hn hs
  refine ⟨?_, h1, h2⟩
  show tdOut _ _ p.blocks.length = tdOut _ _ _
  rw [show (tdZ p s).1.length = p.blocks.length from h2]
theorem tdIr_idem {p : Ir} (he : irErr p = 0) {s : List Bool} (hs : TdIn (tdStr p.blocks) s) :
    TdIn (tdStr (tdIr p s).blocks) (List.replicate (tdIr p s).blocks.length true) ∧ tdIr (tdIr p s) (List.replicate (tdIr p s).blocks.length true) = tdIr p s := by
  obtain ⟨hb, h, _⟩ := tdIr_blocks he hs
  rw [hb, h.qstr, h.inv.qlen]
  refine ⟨h.qin, ?_⟩
  have hz : tdZ (tdIr p s) (List.replicate (tdTrues (tdZ p s).2) true) = (tdQ (tdZ p s).1 (tdZ p s).2, List.replicate (tdTrues (tdZ p s).2) true) := by
    unfold tdZ
    rw [show (tdIr p s).blocks = _ from hb, h.qstr]
    exact tdJoin_none h.qnone _
  show (⟨_, _, tdOut (tdZ (tdIr p s) _).1 (tdZ (tdIr p s) _).2 (tdIr p s).blocks.length, _, _⟩ : Ir) = _
  rw [hz, hb, h.inv.qlen]
  have h2 := tdOut_rep h.inv.qok (tdTrues (tdZ p s).2) (by rw [h.inv.qlen]; exact Nat.le_refl _)
  rw [h.inv.qlen] at h2
  rw [h2, List.take_of_length_le (by rw [h.inv.qlen]; exact Nat.le_refl _)]
  have e : tdIr p s = ⟨p.temps, p.arrays, (tdIr p s).blocks, p.inp, p.out⟩ := rfl
  rw [e, hb]
/-- Sums of operations. -/
theorem opsSum_tdSum (l : List Blk) : ∀ m, m ≤ l.length → tdSum (fun i => (l.getD i blkNone).ops.length) m = opsSum (l.take m)
  | 0, _ => by simp [tdSum, opsSum]
  | m + 1, h => by
    rw [opsSum_step l m (by omega), ← opsSum_tdSum l m (by omega)]; rfl
theorem tdSum_mono {f g : Nat → Nat} : ∀ n, (∀ i, i < n → f i ≤ g i) → tdSum f n ≤ tdSum g n
  | 0, _ => Nat.le_refl _
  | n + 1, h => by
    have := tdSum_mono n (fun i hi => h i (by omega))
    have h2 := h n (by omega)
    show tdSum f n + f n ≤ tdSum g n + g n
    omega
def tdOps (l : List Blk) (s : List Bool) (i : Nat) : Nat := if s.getD i false = true then (l.getD i blkNone).ops.length else 0
theorem opsSum_out (l : List Blk) (s : List Bool) : ∀ m, opsSum (tdOut l s m) = tdSum (tdOps l s) m
  | 0 => rfl
  | m + 1 => by
    show opsSum (tdOut l s m ++ _) = tdSum (tdOps l s) m + tdOps l s m
    rw [opsSum_append, opsSum_out l s m]
    unfold tdOps
    split
    · simp [opsSum]
    · simp [opsSum]
theorem tdNam_P {p : Ir} {g : Int → Int} (hg : ∀ k, labelP p k → labelP p (g k)) {t : Trm} (h : trmP p t) : trmP p (tdNam g t) := by
  unfold tdNam
  rcases h with ⟨h1, h2, h3, h4⟩ | ⟨h1, h2, h3, h4⟩ | ⟨h1, h2⟩
  · rw [if_pos h1]; exact Or.inl ⟨rfl, h2, h3, hg _ h4⟩
  · rw [if_neg (by omega), if_pos h1]; exact Or.inr (Or.inl ⟨rfl, h2, hg _ h3, hg _ h4⟩)
  · rw [if_neg (by omega), if_neg (by omega)]; exact Or.inr (Or.inr ⟨h1, h2⟩)
theorem td_kept {p : Ir} (he : irErr p = 0) {s : List Bool} (hs : TdIn (tdStr p.blocks) s) : (∀ b ∈ (tdZ p s).1, (∀ o ∈ b.ops, opP p o) ∧ trmP p b.term) ∧ tdSum (tdOps (tdZ p s).1 (tdZ p s).2) p.blocks.length ≤ opsSum p.blocks := by
  obtain ⟨hl, hn⟩ := ir_tdOk he
  obtain ⟨_, _, _, h6⟩ := irErr_ok he
  have hi := td_inv (tdStr_ok hl) (by rw [tdStr_len]; exact hn) hs
  have h := tdJoin_all (cnt := tdCnt (tdStr p.blocks) s) (fun m z => z.1.length = p.blocks.length ∧ (∀ b ∈ z.1, (∀ o ∈ b.ops, opP p o) ∧ trmP p b.term) ∧ tdSum (tdOps z.1 z.2) p.blocks.length ≤ opsSum p.blocks) (tdStr p.blocks) s hi
    ⟨tdStr_len _, fun b hb => by
      obtain ⟨c, hc, rfl⟩ := List.mem_map.1 hb
      exact ⟨(h6 c hc).1, tdNam_P (fun k hk => tdLeads_lab hl hk) (h6 c hc).2⟩, by
      have h1 := opsSum_tdSum p.blocks p.blocks.length (Nat.le_refl _)
      rw [List.take_length] at h1
      rw [← h1]
      refine tdSum_mono _ fun i hi => ?_
      unfold tdOps
      split
      · rw [tdStr_at _ i hi]; exact Nat.le_refl _
      · exact Nat.zero_le _⟩
    (fun m z h _ => h)
    (fun m l' s' hi' hm hc ⟨h1, h2, h3⟩ => by
      obtain ⟨c, e, hck, _, hcl, hkl, hcs, _⟩ := hi'.only hm hc
      have hat := tdPut_at (l := l') hkl
      rw [e, Int.toNat_natCast] at hat ⊢
      have hcl2 : c < s'.length := by rw [hi'.len]; exact hcl
      refine ⟨by rw [tdPut_len]; exact h1, fun b hb => ?_, ?_⟩
      · unfold tdPut at hb
        rcases List.mem_or_eq_of_mem_set hb with hb | rfl
        · exact h2 b hb
        · rw [e, Int.toNat_natCast]
          have ha := h2 _ (getD_memI l' m blkNone hkl)
          have hb2 := h2 _ (getD_memI l' c blkNone hcl)
          refine ⟨fun o ho => ?_, hb2.2⟩
          rcases List.mem_append.1 ho with ho | ho
          · exact ha.1 o ho
          · exact hb2.1 o ho
      · have h1 : l'.length = p.blocks.length := h1
        have hmc : ¬ m = c := fun h => hck h.symm
        have e9 : tdSum (tdOps l' s') p.blocks.length = tdSum (tdOps (tdPut l' m) (s'.set c false)) p.blocks.length := by
          refine tdSum_two (k := m) (c := c) (by omega) (by omega) (fun h => hck h.symm) (fun i h7 h8 => ?_) ?_
          · unfold tdOps
            rw [hat, if_neg h7, getD_setB s' c i false false hcl2, if_neg h8]
          · unfold tdOps
            rw [hat, hat, if_pos rfl, if_neg hck, getD_setB s' c m false false hcl2, getD_setB s' c c false false hcl2]
            simp only [if_neg hmc, hm, hcs, if_true, eq_self, Bool.false_eq_true, if_false, List.length_append, Nat.add_zero]
        show tdSum (tdOps (tdPut l' m) (s'.set c false)) p.blocks.length ≤ _
        rw [← e9]; exact h3)
    (fun m l' s' _ _ _ h => h) p.blocks.length
  exact ⟨h.2.2.1, h.2.2.2⟩
/-- A tidied program may be. -/
theorem td_err {p : Ir} (he : irErr p = 0) {s : List Bool} (hs : TdIn (tdStr p.blocks) s) : irErr (tdIr p s) = 0 := by
  obtain ⟨hng, ⟨⟨h1, h2, h3, h4⟩, h5, h6⟩⟩ := irErr_ok he
  obtain ⟨hb, h, hlen⟩ := tdIr_blocks he hs
  obtain ⟨k1, k2⟩ := td_kept he hs
  have hql : (tdIr p s).blocks.length ≤ p.blocks.length := by
    rw [hb, h.inv.qlen, ← hlen, ← h.inv.len]; exact tdTrues_le _
  have hpos : 0 < (tdIr p s).blocks.length := by rw [hb, h.inv.qlen]; exact h.inv.pos
  have hos : opsSum (tdIr p s).blocks ≤ opsSum p.blocks := by
    show opsSum (tdOut _ _ _) ≤ _
    rw [opsSum_out]; exact k2
  have hg : ¬ greatP (tdIr p s) := by
    unfold greatP at hng ⊢
    have e1 : (tdIr p s).temps = p.temps := rfl
    have e2 : (tdIr p s).arrays = p.arrays := rfl
    have e3 : (tdIr p s).out = p.out := rfl
    rw [e1, e2, e3]
    omega
  have hm : mayP (tdIr p s) := by
    refine ⟨⟨h1, h2, h3, fun e => ?_⟩, h5, fun b hbm => ?_⟩
    · rw [e] at hpos; simp at hpos
    · obtain ⟨i, hi, rfl⟩ := List.getElem_of_mem hbm
      have e2 : (tdIr p s).blocks[i] = (tdIr p s).blocks.getD i blkNone := by rw [List.getD_eq_getElem?_getD, List.getElem?_eq_getElem hi]; rfl
      have hi2 : i < tdTrues (tdZ p s).2 := by rw [hb, h.inv.qlen] at hi; exact hi
      obtain ⟨k, hk, rfl⟩ := h.inv.onto hi2
      rw [e2, hb, h.inv.qat hk]
      have hbk := k1 _ (getD_memI (tdZ p s).1 k blkNone (h.inv.lt hk))
      have hok := h.inv.okNum hk
      refine ⟨fun o ho => opP_like (p := p) (q := tdIr p s) rfl rfl (hbk.1 o ho), ?_⟩
      have hlab : ∀ y, tdLab (tdTrues (tdZ p s).2) y → labelP (tdIr p s) y := fun y hy => by
        unfold labelP
        rw [hb, h.inv.qlen]
        exact hy
      have ht := hbk.2
      generalize ((tdZ p s).1.getD k blkNone).term = t at *
      show trmP (tdIr p s) (tdNam (tdNum (tdZ p s).2) t)
      unfold tdNam at hok ⊢
      rcases ht with ⟨t1, t2, t3, t4⟩ | ⟨t1, t2, t3, t4⟩ | ⟨t1, t2⟩
      · rw [if_pos t1] at hok ⊢
        rcases hok with ⟨_, a⟩ | ⟨a, _⟩ | a
        · exact Or.inl ⟨rfl, t2, t3, hlab _ a⟩
        · exact absurd (show (1 : Int) = 2 from a) (by decide)
        · exact absurd (show (1 : Int) = 3 from a) (by decide)
      · rw [if_neg (by omega), if_pos t1] at hok ⊢
        rcases hok with ⟨a, _⟩ | ⟨_, a, b⟩ | a
        · exact absurd (show (2 : Int) = 1 from a) (by decide)
        · exact Or.inr (Or.inl ⟨rfl, t2, hlab _ a, hlab _ b⟩)
        · exact absurd (show (2 : Int) = 3 from a) (by decide)
      · rw [if_neg (by omega), if_neg (by omega)] at hok ⊢
        exact Or.inr (Or.inr ⟨t1, t2⟩)
  unfold irErr
  rw [if_neg hg, if_pos hm]
end Go.Proofs.Ythkobddggoojlaa
namespace Go.Proofs.Ythkobddggoojlaa
open Go.RowKit
set_option linter.unusedVariables false
theorem td_again {p : Ir} (he : irErr p = 0) {s : List Bool} (hs : TdIn (tdStr p.blocks) s) :
    0 < (tdIr p s).blocks.length ∧ (tdIr p s).blocks.length ≤ p.blocks.length ∧ TdOk (tdIr p s).blocks ∧ (∀ i, i < (tdIr p s).blocks.length → TdReach (tdIr p s).blocks i) ∧
      ∀ i, i < (tdIr p s).blocks.length → ∀ x ∈ tdTg ((tdIr p s).blocks.getD i blkNone).term, tdFix (tdIr p s).blocks x := by
  obtain ⟨e, h, hl⟩ := tdIr_blocks he hs
  rw [e, h.inv.qlen]
  refine ⟨h.inv.pos, ?_, h.inv.qok, fun i hi => h.qreach hi, fun i hi x hx => h.qfix hi hx⟩
  have := tdTrues_le (tdZ p s).2
  rw [h.inv.len] at this
  omega
/-- One flag set, where it is to be. -/
def agSet (b : Bool) (g : List Bool) (x : Int) : List Bool := if b = true then g.set x.toNat true else g
/-- What block i adds to the flags. -/
def agOne (t : Trm) (i : Nat) (g : List Bool) : List Bool := agSet (g.getD i false && (decide (t.kind ≠ 3) && decide (0 ≤ t.yes))) g t.yes
def agTwo (t : Trm) (i : Nat) (g : List Bool) : List Bool := agSet (g.getD i false && (decide (t.kind = 2) && decide (0 ≤ t.no))) g t.no
def agStep (t : Trm) (i : Nat) (g : List Bool) : List Bool := agTwo t i (agOne t i g)
theorem agSet_len (b : Bool) (g : List Bool) (x : Int) : (agSet b g x).length = g.length := by
  unfold agSet; split
  · rw [List.length_set]
  · rfl
theorem agStep_len (t : Trm) (i : Nat) (g : List Bool) : (agStep t i g).length = g.length := by
  unfold agStep agTwo agOne; rw [agSet_len, agSet_len]
theorem set_true_getD (g : List Bool) (k j : Nat) (h : g.getD j false = true) : (g.set k true).getD j false = true := by
  by_cases e : j = k
  · subst e
    rw [List.getD_eq_getElem?_getD, List.getElem?_set_self (flag_lt h)]; rfl
  · rw [List.getD_eq_getElem?_getD, List.getElem?_set_ne (Ne.symm e), ← List.getD_eq_getElem?_getD]; exact h
theorem agSet_up (b : Bool) (g : List Bool) (x : Int) (j : Nat) (h : g.getD j false = true) : (agSet b g x).getD j false = true := by
  unfold agSet; split
  · exact set_true_getD g _ j h
  · exact h
theorem agStep_up (t : Trm) (i : Nat) (g : List Bool) (j : Nat) (h : g.getD j false = true) : (agStep t i g).getD j false = true := agSet_up _ _ _ _ (agSet_up _ _ _ _ h)
theorem set_same_true (g : List Bool) (k : Nat) (h : g.getD k false = true) : g.set k true = g := by
  refine List.ext_getElem (by rw [List.length_set]) fun i h1 h2 => ?_
  rw [List.getElem_set]
  split
  · rename_i e
    subst e
    rw [List.getD_eq_getElem?_getD, List.getElem?_eq_getElem h2] at h
    exact h.symm
  · rfl
/-- Where all that block i names is there already, nothing changes. -/
theorem agStep_same {t : Trm} {n i : Nat} {g : List Bool} (ht : tdOkT n t) (h : g.getD i false = true → ∀ x ∈ tdTg t, g.getD x.toNat false = true) : agStep t i g = g := by
  have h1 : agOne t i g = g := by
    unfold agOne agSet
    split
    · rename_i hb
      simp only [Bool.and_eq_true, decide_eq_true_eq] at hb
      obtain ⟨hb1, hb2, hb3⟩ := hb
      refine set_same_true g _ (h hb1 _ ?_)
      unfold tdTg tdOne
      rcases ht with ⟨k1, _⟩ | ⟨k1, _, _⟩ | k1
      · rw [if_pos k1, if_neg (by omega)]; simp
      · rw [if_neg (by omega), if_pos k1, if_neg (by omega)]; simp
      · exact absurd k1 hb2
    · rfl
  unfold agStep
  rw [h1]
  unfold agTwo agSet
  split
  · rename_i hb
    simp only [Bool.and_eq_true, decide_eq_true_eq] at hb
    obtain ⟨hb1, hb2, hb3⟩ := hb
    refine set_same_true g _ (h hb1 _ ?_)
    unfold tdTg tdOne
    rw [if_neg (by omega), if_pos hb2]
    refine List.mem_append_right _ ?_
    rw [if_neg (by omega)]; simp
  · rfl
theorem agSet_in {g : List Bool} {x : Int} (hx : x.toNat < g.length) : (agSet true g x).getD x.toNat false = true := by
  unfold agSet
  rw [if_pos rfl, List.getD_eq_getElem?_getD, List.getElem?_set_self hx]; rfl
/-- What block i names is there behind it. -/
theorem agStep_in {t : Trm} {n i : Nat} {g : List Bool} (ht : tdOkT n t) (hn : g.length = n) (hi : g.getD i false = true) {x : Int} (hx : x ∈ tdTg t) : (agStep t i g).getD x.toNat false = true := by
  have hlab := tdTg_lab ht hx
  have hlt : x.toNat < g.length := by omega
  unfold tdTg at hx
  rcases ht with ⟨k1, a⟩ | ⟨k1, a, b⟩ | k1
  · rw [if_pos k1] at hx
    obtain ⟨x0, _, rfl⟩ := tdOne_mem a hx
    unfold agStep
    refine agSet_up _ _ _ _ ?_
    have hb : (g.getD i false && (decide (t.kind ≠ 3) && decide (0 ≤ t.yes))) = true := by
      rw [hi, decide_eq_true (by omega), decide_eq_true x0]; rfl
    unfold agOne
    rw [hb]
    exact agSet_in hlt
  · rw [if_neg (by omega), if_pos k1] at hx
    rcases List.mem_append.1 hx with hx | hx
    · obtain ⟨x0, _, rfl⟩ := tdOne_mem a hx
      unfold agStep
      refine agSet_up _ _ _ _ ?_
      have hb : (g.getD i false && (decide (t.kind ≠ 3) && decide (0 ≤ t.yes))) = true := by
        rw [hi, decide_eq_true (by omega), decide_eq_true x0]; rfl
      unfold agOne
      rw [hb]
      exact agSet_in hlt
    · obtain ⟨x0, _, rfl⟩ := tdOne_mem b hx
      unfold agStep agTwo
      have hi2 : (agOne t i g).getD i false = true := agSet_up _ _ _ _ hi
      rw [hi2, decide_eq_true k1, decide_eq_true x0]
      refine agSet_in ?_
      unfold agOne
      rw [agSet_len]; exact hlt
  · rw [if_neg (by omega), if_neg (by omega)] at hx
    cases hx
theorem trues_mono : ∀ (s t : List Bool), s.length = t.length → (∀ k, s.getD k false = true → t.getD k false = true) → tdTrues s ≤ tdTrues t
  | [], t, _, _ => Nat.zero_le _
  | a :: s, [], h, _ => by simp at h
  | a :: s, b :: t, h, hk => by
    have h1 := trues_mono s t (by simpa using h) (fun k hs => by have := hk (k + 1) (by simpa using hs); simpa using this)
    have h0 := hk 0
    unfold tdTrues at h1 ⊢
    cases a with
    | false =>
      cases b with
      | false => simpa using h1
      | true => simp; omega
    | true =>
      have : b = true := by simpa using h0
      subst this
      simp; omega
theorem trues_lt : ∀ (s t : List Bool), s.length = t.length → (∀ k, s.getD k false = true → t.getD k false = true) → ∀ x, s.getD x false = false → t.getD x false = true → tdTrues s < tdTrues t
  | [], [], _, _, x, _, h2 => by simp at h2
  | [], b :: t, h, _, _, _, _ => by simp at h
  | a :: s, [], h, _, _, _, _ => by simp at h
  | a :: s, b :: t, h, hk, 0, h1, h2 => by
    have h3 := trues_mono s t (by simpa using h) (fun k hs => by have := hk (k + 1) (by simpa using hs); simpa using this)
    have ha : a = false := by simpa using h1
    have hb : b = true := by simpa using h2
    subst ha; subst hb
    unfold tdTrues at h3 ⊢
    simp; omega
  | a :: s, b :: t, h, hk, x + 1, h1, h2 => by
    have h3 := trues_lt s t (by simpa using h) (fun k hs => by have := hk (k + 1) (by simpa using hs); simpa using this) x (by simpa using h1) (by simpa using h2)
    have h0 := hk 0
    unfold tdTrues at h3 ⊢
    cases a with
    | false =>
      cases b with
      | false => simpa using h3
      | true => simp; omega
    | true =>
      have : b = true := by simpa using h0
      subst this
      simp; omega
/-- Within a round: nothing new yet, or more flags than before it and it was not closed. -/
structure AgIn (q : List Blk) (g0 : List Bool) (i : Nat) (g : List Bool) : Prop where
  len : g.length = q.length
  zero : g.getD 0 false = true
  or_ : (g = g0 ∧ ∀ j, j < i → g0.getD j false = true → ∀ x ∈ tdTg (q.getD j blkNone).term, g0.getD x.toNat false = true) ∨ (tdTrues g0 < tdTrues g ∧ ¬ TdClosed q g0)
theorem AgIn.start {q : List Blk} {g : List Bool} (h1 : g.length = q.length) (h2 : g.getD 0 false = true) : AgIn q g 0 g := ⟨h1, h2, Or.inl ⟨rfl, fun j hj => absurd hj (Nat.not_lt_zero j)⟩⟩
theorem AgIn.step {q : List Blk} (hq : TdOk q) {g0 g : List Bool} {i : Nat} (h : AgIn q g0 i g) (hi : i < q.length) : AgIn q g0 (i + 1) (agStep (q.getD i blkNone).term i g) := by
  have ht := hq.at_ i hi
  refine ⟨by rw [agStep_len]; exact h.len, agStep_up _ _ _ _ h.zero, ?_⟩
  rcases h.or_ with ⟨e, hj⟩ | ⟨h1, h2⟩
  · subst e
    by_cases hc : g.getD i false = true → ∀ x ∈ tdTg (q.getD i blkNone).term, g.getD x.toNat false = true
    · refine Or.inl ⟨agStep_same ht hc, fun j hj1 hg x hx => ?_⟩
      by_cases e : j = i
      · subst e; exact hc hg x hx
      · exact hj j (by omega) hg x hx
    · refine Or.inr ⟨?_, fun hcl => hc fun hg x hx => hcl i hg x hx⟩
      have hc2 : g.getD i false = true ∧ ∃ x ∈ tdTg (q.getD i blkNone).term, ¬ g.getD x.toNat false = true := by
        refine Classical.byContradiction fun hn => hc fun hg x hx => Classical.byContradiction fun hx2 => hn ⟨hg, x, hx, hx2⟩
      obtain ⟨hg, x, hx, hx2⟩ := hc2
      exact trues_lt _ _ (agStep_len _ _ _).symm (fun k => agStep_up _ _ _ k) x.toNat (by simpa using hx2) (agStep_in ht h.len hg hx)
  · exact Or.inr ⟨Nat.lt_of_lt_of_le h1 (trues_mono _ _ (agStep_len _ _ _).symm (fun k => agStep_up _ _ _ k)), h2⟩
/-- Ahead of a round n: block 0 is there, and if it isn't closed there are more than n flags. -/
structure AgOut (q : List Blk) (n : Nat) (g : List Bool) : Prop where
  len : g.length = q.length
  zero : g.getD 0 false = true
  more : ¬ TdClosed q g → n + 1 ≤ tdTrues g
theorem AgOut.start {q : List Blk} (h0 : 0 < q.length) : AgOut q 0 ((List.replicate q.length false).set 0 true) := by
  have hz : ((List.replicate q.length false).set 0 true).getD 0 false = true := by
    rw [List.getD_eq_getElem?_getD, List.getElem?_set_self (by rw [List.length_replicate]; exact h0)]; rfl
  refine ⟨by rw [List.length_set, List.length_replicate], hz, fun _ => ?_⟩
  unfold tdTrues
  have : true ∈ (List.replicate q.length false).set 0 true := List.mem_of_getElem? (i := 0) (List.getElem?_set_self (by rw [List.length_replicate]; exact h0))
  have := List.count_pos_iff.2 this
  omega
theorem AgOut.round {q : List Blk} {n : Nat} {g0 g : List Bool} (h0 : AgOut q n g0) (h : AgIn q g0 q.length g) : AgOut q (n + 1) g := by
  refine ⟨h.len, h.zero, fun hc => ?_⟩
  rcases h.or_ with ⟨e, hj⟩ | ⟨h1, h2⟩
  · subst e
    exact absurd (fun i hi x hx => hj i (by have := flag_lt hi; rw [h.len] at this; exact this) hi x hx) hc
  · have := h0.more h2
    omega
theorem AgOut.all {q : List Blk} {g : List Bool} (h : AgOut q q.length g) (hr : ∀ i, i < q.length → TdReach q i) (i : Nat) (hi : i < q.length) : g.getD i false = true := by
  have hc : TdClosed q g := Classical.byContradiction fun hn => by
    have h1 := h.more hn
    have h2 := tdTrues_le g
    rw [h.len] at h2
    omega
  exact (hr i hi).closed h.zero hc
theorem agStep_none {t : Trm} {i : Nat} {g : List Bool} (hg : g.getD i false = false) : agStep t i g = g := by
  have h1 : agOne t i g = g := by unfold agOne agSet; rw [hg]; rfl
  unfold agStep
  rw [h1]
  unfold agTwo agSet; rw [hg]; rfl
theorem agStep_true {t : Trm} {i : Nat} {g : List Bool} (hg : g.getD i false = true) : agStep t i g = agSet (decide (t.kind = 2) && decide (0 ≤ t.no)) (agSet (decide (t.kind ≠ 3) && decide (0 ≤ t.yes)) g t.yes) t.no := by
  unfold agStep
  have h2 : (agOne t i g).getD i false = true := agSet_up _ _ _ _ hg
  unfold agTwo
  rw [h2]
  unfold agOne
  rw [hg]
  rfl
end Go.Proofs.Ythkobddggoojlaa
