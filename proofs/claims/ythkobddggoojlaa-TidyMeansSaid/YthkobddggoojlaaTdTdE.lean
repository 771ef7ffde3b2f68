/- Parts of a proof. No condition but those that each theorem names. -/
import Derived.WalkKit
import Derived.OpenShut
import Derived.Below
import Derived.Lib.Hide
import Derived.Laws.OwnMore
import Derived.Deep.QuietTactic
import Derived.Deep.AppendLies
import Derived.ProofKit
import Derived.SizedLaws
import Derived.Test.YthkobddggoojlaaProg
import Derived.Test.YthkobddggoojlaaTdIr
import Derived.Test.YthkobddggoojlaaTdG1e2
import Derived.Test.YthkobddggoojlaaTdTdD
namespace Go.Proofs.Ythkobddggoojlaa
open Go.RowKit
set_option linter.unusedVariables false
theorem TdReach.put {cnt : Int → Nat} {l : List Blk} {s : List Bool} {k : Nat} (h : TdInv cnt l s) (hr : ∀ i, s.getD i false = true → TdReach l i) (hk : s.getD k false = true) (hc : tdCan cnt l k = true) :
    ∀ i, (s.set (tdTo l k).toNat false).getD i false = true → TdReach (tdPut l k) i := by
  obtain ⟨c, e, hck, hc0, hcl, hkl, hcs, htg, hno⟩ := h.only hk hc
  have hat := tdPut_at (l := l) hkl
  rw [e, Int.toNat_natCast] at hat ⊢
  have hcl2 : c < s.length := by rw [h.len]; exact hcl
  intro i hi
  obtain ⟨hic, his⟩ := (flag_set hcl2).1 hi
  have key := hr i his (fun j => s.getD j false = true ∧ (j = c → TdReach (tdPut l k) k) ∧ (j ≠ c → TdReach (tdPut l k) j)) ⟨h.zero, fun h0 => absurd h0.symm hc0, fun _ => TdReach.zero⟩ (fun j x hj hx => ?_)
  · exact key.2.2 hic
  · obtain ⟨hjs, hj1, hj2⟩ : s.getD j false = true ∧ (j = c → TdReach (tdPut l k) k) ∧ (j ≠ c → TdReach (tdPut l k) j) := hj
    have hxs := h.closed j hjs x hx
    have hjl : j < l.length := by have := flag_lt hjs; rw [h.len] at this; exact this
    have hlab := tdTg_lab (h.ok.at_ j hjl) hx
    have hxn : (c : Int) ∉ tdTg (l.getD j blkNone).term → x.toNat ≠ c := by
      intro hn he
      have h9 : x = (c : Int) := by omega
      exact hn (h9 ▸ hx)
    by_cases hjc : j = c
    · subst hjc
      have h1 := hj1 rfl
      have h2 : x ∈ tdTg ((tdPut l k).getD k blkNone).term := by rw [hat, if_pos rfl]; exact hx
      have h3 := TdReach.step k x h1 h2
      exact ⟨hxs, fun he => absurd he (hxn (hno j hcs hck)), fun _ => h3⟩
    · by_cases hjk : j = k
      · subst hjk
        rw [htg] at hx
        obtain rfl := List.mem_singleton.1 hx
        exact ⟨hxs, fun _ => hj2 hjc, fun hn => absurd (by simp) hn⟩
      · have h2 : x ∈ tdTg ((tdPut l k).getD j blkNone).term := by rw [hat, if_neg hjk]; exact hx
        exact ⟨hxs, fun he => absurd he (hxn (hno j hjs hjk)), fun _ => TdReach.step j x (hj2 hjc) h2⟩
/-- Ranks. -/
theorem tdRank_le (s : List Bool) : ∀ d k, tdRank s k ≤ tdRank s (k + d)
  | 0, k => Nat.le_refl _
  | d + 1, k => by
    refine Nat.le_trans (tdRank_le s d k) ?_
    rcases Nat.lt_or_ge (k + d) s.length with h | h
    · rw [show k + (d + 1) = (k + d) + 1 from rfl, tdRank_succ s (k + d) h]; omega
    · unfold tdRank
      rw [List.take_of_length_le h, List.take_of_length_le (by omega)]; exact Nat.le_refl _
theorem tdRank_lt {s : List Bool} {k m : Nat} (hk : s.getD k false = true) (hm : k < m) : tdRank s k < tdRank s m := by
  have h1 := tdRank_succ s k (flag_lt hk)
  rw [if_pos hk] at h1
  obtain ⟨d, rfl⟩ := Nat.exists_eq_add_of_le hm
  have h2 : tdRank s (k + 1) ≤ tdRank s (k.succ + d) := tdRank_le s d (k + 1)
  omega
theorem tdRank_inj {s : List Bool} {k m : Nat} (hk : s.getD k false = true) (hm : s.getD m false = true) (h : tdRank s k = tdRank s m) : k = m := by
  rcases Nat.lt_trichotomy k m with h1 | h1 | h1
  · have := tdRank_lt hk h1; omega
  · exact h1
  · have := tdRank_lt hm h1; omega
theorem tdRank_all {s : List Bool} {k : Nat} (hk : s.getD k false = true) : tdRank s k < tdTrues s := by
  rw [← tdRank_len]; exact tdRank_lt hk (flag_lt hk)
theorem tdRank_onto (s : List Bool) : ∀ m, m ≤ s.length → ∀ i, i < tdRank s m → ∃ k, k < m ∧ s.getD k false = true ∧ tdRank s k = i
  | 0, _, i, h => by unfold tdRank at h; simp at h
  | m + 1, hm, i, h => by
    rw [tdRank_succ s m (by omega)] at h
    by_cases hi : i < tdRank s m
    · obtain ⟨k, a, b, c⟩ := tdRank_onto s m (by omega) i hi
      exact ⟨k, by omega, b, c⟩
    · by_cases hs : s.getD m false = true
      · rw [if_pos hs] at h
        exact ⟨m, by omega, hs, by omega⟩
      · rw [if_neg hs] at h; omega
theorem tdOut_at (l : List Blk) (s : List Bool) : ∀ m, m ≤ s.length → ∀ k, k < m → s.getD k false = true → (tdOut l s m).getD (tdRank s k) blkNone = ⟨(l.getD k blkNone).ops, tdNam (tdNum s) (l.getD k blkNone).term⟩
  | 0, _, k, hk, _ => by omega
  | m + 1, hm, k, hk, hs => by
    have hlen := tdOut_len l s m (by omega)
    show (tdOut l s m ++ _).getD (tdRank s k) blkNone = _
    by_cases e : k = m
    · subst e
      rw [if_pos hs, List.getD_eq_getElem?_getD, List.getElem?_append_right (by omega), hlen, Nat.sub_self]; rfl
    · have h1 : tdRank s k < tdRank s m := tdRank_lt hs (by omega)
      rw [List.getD_eq_getElem?_getD, List.getElem?_append_left (by omega), ← List.getD_eq_getElem?_getD]
      exact tdOut_at l s m (by omega) k (by omega) hs
theorem tdNum_none (s : List Bool) : tdNum s (-1) = -1 := rfl
theorem tdNum_of {s : List Bool} {x : Int} (h : 0 ≤ x) : tdNum s x = (tdRank s x.toNat : Int) := by unfold tdNum; rw [if_neg (by omega)]
theorem tdOne_num {s : List Bool} {n : Nat} {k : Int} (h : tdLab n k) : tdOne (tdNum s k) = (tdOne k).map (tdNum s) := by
  unfold tdOne
  by_cases e : k = -1
  · subst e; rfl
  · have h0 := (tdLab_zero h e).1
    rw [if_neg e, if_neg (by rw [tdNum_of h0]; omega)]; rfl
theorem tdTg_num {s : List Bool} {n : Nat} {t : Trm} (h : tdOkT n t) : tdTg (tdNam (tdNum s) t) = (tdTg t).map (tdNum s) := by
  unfold tdTg
  rw [tdNam_kind]
  unfold tdNam
  rcases h with ⟨hk, h1⟩ | ⟨hk, h1, h2⟩ | hk
  · rw [if_pos hk, if_pos hk, if_pos hk]; exact tdOne_num h1
  · have hk1 : ¬ t.kind = 1 := by omega
    rw [if_neg hk1, if_neg hk1, if_neg hk1, if_pos hk, if_pos hk, if_pos hk, List.map_append]
    exact congr (congrArg _ (tdOne_num h1)) (tdOne_num h2)
  · rw [if_neg (by omega), if_neg (by omega), if_neg (by omega), if_neg (by omega)]; rfl
/-- A label that leads to none, or to a block that is there. -/
def tdHere (s : List Bool) (x : Int) : Prop := x = -1 ∨ (0 ≤ x ∧ s.getD x.toNat false = true)
theorem tdHere_num {s : List Bool} {x : Int} (h : tdHere s x) : tdLab (tdTrues s) (tdNum s x) := by
  rcases h with rfl | ⟨h0, h1⟩
  · exact ⟨Int.le_refl _, by show (-1 : Int) < _; omega⟩
  · rw [tdNum_of h0]
    have := tdRank_all h1
    unfold tdLab; omega
/-- Blocks that are all tidied. -/
structure TdEnd (cnt : Int → Nat) (l : List Blk) (s : List Bool) : Prop where
  inv : TdInv cnt l s
  good : TdGood l s
  reach : ∀ i, s.getD i false = true → TdReach l i
  none_ : ∀ i, s.getD i false = true → tdCan cnt l i = false
section
variable {cnt : Int → Nat} {l : List Blk} {s : List Bool}
theorem TdInv.here {k : Nat} (h : TdInv cnt l s) (hk : s.getD k false = true) {x : Int} (hx : x ∈ tdTg (l.getD k blkNone).term) : 0 ≤ x ∧ x < l.length ∧ s.getD x.toNat false = true := by
  have hkl : k < l.length := by have := flag_lt hk; rw [h.len] at this; exact this
  have := tdTg_lab (h.ok.at_ k hkl) hx
  exact ⟨this.1, this.2, h.closed k hk x hx⟩
theorem TdInv.lt {k : Nat} (h : TdInv cnt l s) (hk : s.getD k false = true) : k < l.length := by have := flag_lt hk; rw [h.len] at this; exact this
theorem TdInv.okNum {k : Nat} (h : TdInv cnt l s) (hk : s.getD k false = true) : tdOkT (tdTrues s) (tdNam (tdNum s) (l.getD k blkNone).term) := by
  have hok := h.ok.at_ k (h.lt hk)
  have hx := fun x => @TdInv.here cnt l s k h hk x
  generalize (l.getD k blkNone).term = t at *
  have h1 : ∀ y, tdLab l.length y → (y = -1 ∨ y ∈ tdTg t) → tdLab (tdTrues s) (tdNum s y) := fun y hy hm => by
    refine tdHere_num ?_
    rcases hm with hm | hm
    · exact Or.inl hm
    · exact Or.inr ⟨(hx y hm).1, (hx y hm).2.2⟩
  unfold tdTg tdOne at h1
  unfold tdNam
  rcases hok with ⟨hk1, a⟩ | ⟨hk1, a, b⟩ | hk1
  · rw [if_pos hk1] at h1 ⊢
    refine Or.inl ⟨rfl, h1 _ a ?_⟩
    by_cases e : t.yes = -1
    · exact Or.inl e
    · right; rw [if_neg e]; simp
  · have hn : ¬ t.kind = 1 := by omega
    rw [if_neg hn, if_pos hk1] at h1 ⊢
    refine Or.inr (Or.inl ⟨rfl, h1 _ a ?_, h1 _ b ?_⟩)
    · by_cases e : t.yes = -1
      · exact Or.inl e
      · right; rw [if_neg e]; simp
    · by_cases e : t.no = -1
      · exact Or.inl e
      · right; rw [if_neg e]; simp
  · rw [if_neg (by omega), if_neg (by omega)]
    exact Or.inr (Or.inr hk1)
/-- The blocks, numbered anew. -/
def tdQ (l : List Blk) (s : List Bool) : List Blk := tdOut l s l.length
theorem TdInv.qlen (h : TdInv cnt l s) : (tdQ l s).length = tdTrues s := by
  unfold tdQ
  rw [tdOut_len l s _ (by rw [h.len]; exact Nat.le_refl _), ← h.len, tdRank_len]
theorem TdInv.qat {k : Nat} (h : TdInv cnt l s) (hk : s.getD k false = true) : (tdQ l s).getD (tdRank s k) blkNone = ⟨(l.getD k blkNone).ops, tdNam (tdNum s) (l.getD k blkNone).term⟩ :=
  tdOut_at l s l.length (by rw [h.len]; exact Nat.le_refl _) k (h.lt hk) hk
theorem TdInv.onto (h : TdInv cnt l s) {i : Nat} (hi : i < tdTrues s) : ∃ k, s.getD k false = true ∧ tdRank s k = i := by
  obtain ⟨k, _, a, b⟩ := tdRank_onto s s.length (Nat.le_refl _) i (by rw [tdRank_len]; exact hi)
  exact ⟨k, a, b⟩
theorem TdInv.qok (h : TdInv cnt l s) : TdOk (tdQ l s) := by
  intro b hb
  obtain ⟨i, hi, rfl⟩ := List.getElem_of_mem hb
  rw [h.qlen] at hi ⊢
  obtain ⟨k, hk, e⟩ := h.onto hi
  have e2 : (tdQ l s)[i]'(by rw [h.qlen]; exact hi) = (tdQ l s).getD i blkNone := by rw [List.getD_eq_getElem?_getD, List.getElem?_eq_getElem (by rw [h.qlen]; exact hi)]; rfl
  rw [e2, ← e, h.qat hk]
  exact h.okNum hk
theorem TdInv.atNum (h : TdInv cnt l s) {y : Int} (h0 : 0 ≤ y) (hs : s.getD y.toNat false = true) : tdAt (tdQ l s) (tdNum s y) = ⟨(tdAt l y).ops, tdNam (tdNum s) (tdAt l y).term⟩ := by
  rw [tdNum_of h0]
  exact h.qat hs
theorem TdInv.stopNum (h : TdInv cnt l s) {y : Int} (hy : tdHere s y) : tdStop (tdQ l s) (tdNum s y) = tdStop l y := by
  rcases hy with rfl | ⟨h0, hs⟩
  · rfl
  · unfold tdStop
    rw [decide_eq_false (show ¬ tdNum s y = -1 by rw [tdNum_of h0]; omega), decide_eq_false (show ¬ y = -1 by omega), h.atNum h0 hs]
    unfold tdDet
    rw [tdNam_kind]
theorem TdInv.nextHere (h : TdInv cnt l s) {y : Int} (hy : tdHere s y) (hs : tdStop l y = false) : tdHere s (tdNext l y) ∧ tdNext (tdQ l s) (tdNum s y) = tdNum s (tdNext l y) := by
  obtain ⟨h1, h2⟩ := tdStop_false hs
  obtain ⟨_, hk⟩ := tdDet_true h2
  rcases hy with hy | ⟨h0, hys⟩
  · exact absurd hy h1
  · have hk2 : (l.getD y.toNat blkNone).term.kind = 1 := hk
    refine ⟨?_, ?_⟩
    · by_cases e : tdNext l y = -1
      · exact Or.inl e
      · have hm : tdNext l y ∈ tdTg (l.getD y.toNat blkNone).term := by
          unfold tdTg tdOne
          rw [if_pos hk2, if_neg (show ¬ (l.getD y.toNat blkNone).term.yes = -1 from e)]
          exact List.mem_singleton.2 rfl
        have := h.here hys hm
        exact Or.inr ⟨this.1, this.2.2⟩
    · unfold tdNext
      rw [h.atNum h0 hys]
      exact tdNam_yes hk
theorem TdInv.pathNum (h : TdInv cnt l s) {y : Int} (hy : tdHere s y) : ∀ m, tdHere s (tdPath l m y) ∧ tdPath (tdQ l s) m (tdNum s y) = tdNum s (tdPath l m y)
  | 0 => ⟨hy, rfl⟩
  | m + 1 => by
    obtain ⟨h1, h2⟩ := h.pathNum hy m
    rw [tdPath_succ, tdPath_succ, h2]
    cases hs : tdStop l (tdPath l m y) with
    | true => rw [tdStep_stop hs, tdStep_stop ((h.stopNum h1).trans hs)]; exact ⟨h1, rfl⟩
    | false =>
      rw [tdStep_go hs, tdStep_go ((h.stopNum h1).trans hs)]
      exact h.nextHere h1 hs
theorem TdInv.fixNum (h : TdInv cnt l s) {y : Int} (hy : tdHere s y) (hf : tdFix l y) : tdFix (tdQ l s) (tdNum s y) := by
  rcases hf with hf | hf
  · exact Or.inl ((h.stopNum hy).trans hf)
  · right
    intro m
    obtain ⟨h1, h2⟩ := h.pathNum hy m
    rw [h2, h.stopNum h1]
    exact hf m
/-- What a tidied block names is no detour, but of a ring. -/
theorem TdEnd.qfix (h : TdEnd cnt l s) {i : Nat} (hi : i < tdTrues s) {x : Int} (hx : x ∈ tdTg ((tdQ l s).getD i blkNone).term) : tdFix (tdQ l s) x := by
  obtain ⟨k, hk, rfl⟩ := h.inv.onto hi
  rw [h.inv.qat hk] at hx
  have hx : x ∈ tdTg (tdNam (tdNum s) (l.getD k blkNone).term) := hx
  rw [tdTg_num (h.inv.ok.at_ k (h.inv.lt hk))] at hx
  obtain ⟨y, hy, rfl⟩ := List.mem_map.1 hx
  have h2 := h.inv.here hk hy
  exact h.inv.fixNum (Or.inr ⟨h2.1, h2.2.2⟩) (h.good k hk y hy)
theorem tdNam_id {n : Nat} {g : Int → Int} {t : Trm} (h : tdOkT n t) (hg : ∀ x ∈ tdTg t, g x = x) (hn : g (-1) = -1) : tdNam g t = t := by
  have h1 : ∀ y, (y = -1 ∨ y ∈ tdTg t) → g y = y := fun y hy => by
    rcases hy with rfl | hy
    · exact hn
    · exact hg y hy
  obtain ⟨tk, ta, ty, tn⟩ := t
  unfold tdTg tdOne at h1
  unfold tdNam
  rcases h with ⟨hk1, a⟩ | ⟨hk1, a, b⟩ | hk1
  · simp only at hk1
    subst hk1
    simp only [if_true] at h1 ⊢
    rw [h1 ty (by by_cases e : ty = -1
                  · exact Or.inl e
                  · right; rw [if_neg e]; simp)]
  · simp only at hk1
    subst hk1
    rw [if_neg (by simp), if_pos rfl] at h1 ⊢
    simp only at h1 ⊢
    rw [h1 ty (by by_cases e : ty = -1
                  · exact Or.inl e
                  · right; rw [if_neg e]; simp), h1 tn (by by_cases e : tn = -1
                                                           · exact Or.inl e
                                                           · right; rw [if_neg e]; simp)]
  · simp only at hk1
    subst hk1
    rfl
theorem TdEnd.qstr (h : TdEnd cnt l s) : tdStr (tdQ l s) = tdQ l s := by
  refine List.ext_getElem (tdStr_len _) fun i h1 h2 => ?_
  have hi : i < tdTrues s := by rw [h.inv.qlen] at h2; exact h2
  have e1 : (tdStr (tdQ l s))[i] = (tdStr (tdQ l s)).getD i blkNone := by rw [List.getD_eq_getElem?_getD, List.getElem?_eq_getElem h1]; rfl
  have e2 : (tdQ l s)[i] = (tdQ l s).getD i blkNone := by rw [List.getD_eq_getElem?_getD, List.getElem?_eq_getElem h2]; rfl
  rw [e1, e2, tdStr_at _ i h2, tdNam_id (h.inv.qok.at_ i h2) (fun x hx => tdLeads_fix (h.qfix hi hx)) (tdLeads_none _)]
theorem TdEnd.qreach (h : TdEnd cnt l s) {i : Nat} (hi : i < tdTrues s) : TdReach (tdQ l s) i := by
  obtain ⟨k, hk, rfl⟩ := h.inv.onto hi
  refine (h.reach k hk (fun j => s.getD j false = true ∧ TdReach (tdQ l s) (tdRank s j)) ⟨h.inv.zero, ?_⟩ (fun j x hj hx => ?_)).2
  · have e : tdRank s 0 = 0 := rfl
    rw [e]; exact TdReach.zero
  · obtain ⟨hjs, hjr⟩ : s.getD j false = true ∧ TdReach (tdQ l s) (tdRank s j) := hj
    have h2 := h.inv.here hjs hx
    refine ⟨h2.2.2, ?_⟩
    have hm : tdNum s x ∈ tdTg ((tdQ l s).getD (tdRank s j) blkNone).term := by
      rw [h.inv.qat hjs]
      show tdNum s x ∈ tdTg (tdNam (tdNum s) (l.getD j blkNone).term)
      rw [tdTg_num (h.inv.ok.at_ j (h.inv.lt hjs))]
      exact List.mem_map.2 ⟨x, hx, rfl⟩
    have h3 := TdReach.step (tdRank s j) (tdNum s x) hjr hm
    rw [tdNum_of h2.1] at h3
    exact h3
theorem allT_getD {n k : Nat} (hk : k < n) : (List.replicate n true).getD k false = true := by rw [List.getD_eq_getElem?_getD, List.getElem?_replicate, if_pos hk]; rfl
theorem allT_lt {n k : Nat} (h : (List.replicate n true).getD k false = true) : k < n := by have := flag_lt h; rw [List.length_replicate] at this; exact this
theorem TdEnd.qin (h : TdEnd cnt l s) : TdIn (tdQ l s) (List.replicate (tdTrues s) true) := by
  refine ⟨by rw [List.length_replicate, h.inv.qlen], fun k hk => ?_⟩
  rw [h.inv.qlen] at hk
  exact ⟨fun _ => h.qreach hk, fun _ => allT_getD hk⟩
theorem TdInv.pos (h : TdInv cnt l s) : 0 < tdTrues s := by have := tdRank_all h.zero; omega
theorem TdEnd.qinv (h : TdEnd cnt l s) : TdInv (tdCnt (tdQ l s) (List.replicate (tdTrues s) true)) (tdQ l s) (List.replicate (tdTrues s) true) :=
  ⟨by rw [List.length_replicate, h.inv.qlen], allT_getD h.inv.pos, h.inv.qok, fun i hi x hx => by
    have := tdTg_lab (h.inv.qok.at_ i (by rw [h.inv.qlen]; exact allT_lt hi)) hx
    rw [h.inv.qlen] at this
    exact allT_getD (by omega), fun x _ => rfl⟩
theorem tdSum_zero (f : Nat → Nat) : ∀ n, (∀ i, i < n → f i = 0) → tdSum f n = 0
  | 0, _ => rfl
  | n + 1, h => by
    show tdSum f n + f n = 0
    rw [tdSum_zero f n (fun i hi => h i (by omega)), h n (by omega)]
theorem tdSum_single {f : Nat → Nat} {k n : Nat} (hk : k < n) (h : ∀ i, i < n → i ≠ k → f i = 0) : tdSum f n = f k := by
  rw [tdSum_pull f k n hk, tdSum_zero (fun i => if i = k then 0 else f i) n (fun i hi => by
    by_cases e : i = k
    · simp only [if_pos e]
    · simp only [if_neg e]; exact h i hi e), Nat.zero_add]
theorem TdEnd.qnone (h : TdEnd cnt l s) (i : Nat) (hi : (List.replicate (tdTrues s) true).getD i false = true) : tdCan (tdCnt (tdQ l s) (List.replicate (tdTrues s) true)) (tdQ l s) i = false := by
  obtain ⟨k, hk, rfl⟩ := h.inv.onto (allT_lt hi)
  cases hc : tdCan (tdCnt (tdQ l s) (List.replicate (tdTrues s) true)) (tdQ l s) (tdRank s k) with
  | false => rfl
  | true =>
    exfalso
    obtain ⟨c', e, hck, hc0, hcl, _, hcs, htg, hno⟩ := h.qinv.only hi hc
    have hkind := (tdCan_of hc).1
    rw [h.inv.qat hk] at hkind htg
    have hkind : (tdNam (tdNum s) (l.getD k blkNone).term).kind = 1 := hkind
    rw [tdNam_kind] at hkind
    have htg : tdTg (tdNam (tdNum s) (l.getD k blkNone).term) = [(c' : Int)] := htg
    rw [tdTg_num (h.inv.ok.at_ k (h.inv.lt hk))] at htg
    obtain ⟨c, hcm, rfl⟩ := h.inv.onto (allT_lt hcs)
    -- what k names in the old numbers
    have hy : tdTg (l.getD k blkNone).term = [tdTo l k] := by
      refine tdTg_jump hkind fun e1 => ?_
      unfold tdTg tdOne at htg
      rw [if_pos hkind, if_pos (show (l.getD k blkNone).term.yes = -1 from e1)] at htg
      cases htg
    have hym : tdTo l k ∈ tdTg (l.getD k blkNone).term := by rw [hy]; simp
    have h2 := h.inv.here hk hym
    rw [hy] at htg
    have h3 : tdNum s (tdTo l k) = (tdRank s c : Int) := by injection htg
    rw [tdNum_of h2.1] at h3
    have h4 : (tdTo l k).toNat = c := tdRank_inj h2.2.2 hcm (by omega)
    have h5 : tdTo l k = (c : Int) := by omega
    have hck2 : c ≠ k := fun e1 => hck (by rw [e1])
    have hc02 : c ≠ 0 := fun e1 => hc0 (by rw [e1]; rfl)
    have hcnt : tdCnt l s (c : Int) = 1 := by
      unfold tdCnt
      rw [tdSum_single (h.inv.lt hk) (fun j hj hjk => ?_)]
      · unfold tdNm; rw [if_pos hk, hy, h5]; simp
      · unfold tdNm
        split
        · rename_i hjs
          rw [List.count_eq_zero]
          intro hm
          refine hno (tdRank s j) (allT_getD (tdRank_all hjs)) (fun e1 => hjk (tdRank_inj hjs hk e1)) ?_
          rw [h.inv.qat hjs]
          show ((tdRank s c : Nat) : Int) ∈ tdTg (tdNam (tdNum s) (l.getD j blkNone).term)
          rw [tdTg_num (h.inv.ok.at_ j (h.inv.lt hjs))]
          exact List.mem_map.2 ⟨(c : Int), hm, by rw [tdNum_of (by omega)]; rfl⟩
        · rfl
    have hcan : tdCan cnt l k = true := by
      unfold tdCan
      rw [h5, ← h.inv.cnt c hcm, hcnt, decide_eq_true hkind, decide_eq_false (show ¬ (c : Int) = (k : Int) by omega), decide_eq_false (show ¬ (c : Int) = 0 by omega), decide_eq_false (show ¬ (c : Int) = -1 by omega)]
      rfl
    rw [h.none_ k hk] at hcan
    cases hcan
theorem tdJoin_none {cnt : Int → Nat} {l : List Blk} {s : List Bool} (h : ∀ i, s.getD i false = true → tdCan cnt l i = false) : ∀ m, tdJoinTo cnt (l, s) m = (l, s)
  | 0 => rfl
  | m + 1 => by
    show (if (tdJoinTo cnt (l, s) m).2.getD m false = true then tdGo cnt (tdTrues (tdJoinTo cnt (l, s) m).2) (tdJoinTo cnt (l, s) m) m else tdJoinTo cnt (l, s) m) = (l, s)
    rw [tdJoin_none h m]
    by_cases hm : s.getD m false = true
    · simp only [if_pos hm]
      exact tdGo_end (z := (l, s)) (h m hm) _
    · simp only [if_neg hm]
theorem tdRank_rep (n : Nat) : ∀ k, k ≤ n → tdRank (List.replicate n true) k = k
  | 0, _ => rfl
  | k + 1, h => by
    rw [tdRank_succ _ k (by rw [List.length_replicate]; omega), tdRank_rep n k (by omega), if_pos (allT_getD (by omega))]
theorem tdOut_rep {q : List Blk} (hq : TdOk q) : ∀ m, m ≤ q.length → tdOut q (List.replicate q.length true) m = q.take m
  | 0, _ => by simp [tdOut]
  | m + 1, h => by
    show tdOut q (List.replicate q.length true) m ++ _ = _
    rw [tdOut_rep hq m (by omega), if_pos (allT_getD (by omega)), take_succ_getD q m blkNone (by omega)]
    congr 1
    have e := tdNam_id (g := tdNum (List.replicate q.length true)) (hq.at_ m (by omega)) (fun x hx => by
      have := tdTg_lab (hq.at_ m (by omega)) hx
      rw [tdNum_of this.1, tdRank_rep _ _ (by omega)]; omega) rfl
    rw [e]
end
end Go.Proofs.Ythkobddggoojlaa
