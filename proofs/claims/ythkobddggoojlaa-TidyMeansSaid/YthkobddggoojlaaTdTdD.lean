/- Parts of a proof. No condition but those that each theorem names. -/
import Derived.WalkKit
import Derived.OpenShut
import Derived.Below
import Derived.Lib.Hide
import Derived.Laws.OwnMore
import Derived.Deep.QuietTactic
import Derived.Deep.AppendLies
import Derived.ProofKit
import Derived.SizedLaws
import Derived.Test.YthkobddggoojlaaProg
import Derived.Test.YthkobddggoojlaaTdG0e0
import Derived.Test.YthkobddggoojlaaTdIr
import Derived.Test.YthkobddggoojlaaTdG1e2
namespace Go.Proofs.Ythkobddggoojlaa
open Go.RowKit
set_option linter.unusedVariables false
theorem tdLab_zero {n : Nat} {k : Int} (h : tdLab n k) (hk : k ≠ -1) : 0 ≤ k ∧ k < n := by unfold tdLab at h; omega
theorem tdStop_false {l : List Blk} {k : Int} (h : tdStop l k = false) : k ≠ -1 ∧ tdDet (tdAt l k) = true := by
  unfold tdStop at h
  simpa using h
theorem tdDet_true {b : Blk} (h : tdDet b = true) : b.ops = [] ∧ b.term.kind = 1 := by
  unfold tdDet at h
  simpa using h
theorem tdDet_of {b : Blk} (h1 : b.ops = []) (h2 : b.term.kind = 1) : tdDet b = true := by unfold tdDet; rw [h1, h2]; rfl
theorem tdAt_mem {l : List Blk} {k : Int} (h0 : 0 ≤ k) (h1 : k < l.length) : tdAt l k ∈ l := getD_memI l k.toNat blkNone (by omega)
theorem tdStep_lab {l : List Blk} (hl : TdOk l) {k : Int} (h : tdLab l.length k) : tdLab l.length (tdStep l k) := by
  cases hs : tdStop l k with
  | true => rw [tdStep_stop hs]; exact h
  | false =>
    rw [tdStep_go hs]
    obtain ⟨h1, h2⟩ := tdStop_false hs
    obtain ⟨_, hk⟩ := tdDet_true h2
    obtain ⟨a, b⟩ := tdLab_zero h h1
    rcases hl _ (tdAt_mem a b) with ⟨_, h3⟩ | ⟨h3, _⟩ | h3
    · exact h3
    · omega
    · omega
theorem tdPath_lab {l : List Blk} (hl : TdOk l) {k : Int} (h : tdLab l.length k) : ∀ n, tdLab l.length (tdPath l n k)
  | 0 => h
  | n + 1 => tdStep_lab hl (tdPath_lab hl h n)
theorem tdLeads_lab {l : List Blk} (hl : TdOk l) {k : Int} (h : tdLab l.length k) : tdLab l.length (tdLeads l k) := by
  unfold tdLeads
  split
  · exact tdPath_lab hl h _
  · exact h
theorem tdNam_ok {n m : Nat} {g : Int → Int} (hg : ∀ k, tdLab n k → tdLab m (g k)) {t : Trm} (h : tdOkT n t) : tdOkT m (tdNam g t) := by
  unfold tdNam
  rcases h with ⟨hk, h1⟩ | ⟨hk, h1, h2⟩ | hk
  · rw [if_pos hk]; exact Or.inl ⟨rfl, hg _ h1⟩
  · rw [if_neg (by omega), if_pos hk]; exact Or.inr (Or.inl ⟨rfl, hg _ h1, hg _ h2⟩)
  · rw [if_neg (by omega), if_neg (by omega)]; exact Or.inr (Or.inr hk)
theorem tdNam_kind (g : Int → Int) (t : Trm) : (tdNam g t).kind = t.kind := by
  unfold tdNam
  split
  · rename_i h; exact h.symm
  · split
    · rename_i h; exact h.symm
    · rfl
theorem tdNam_yes {g : Int → Int} {t : Trm} (h : t.kind = 1) : (tdNam g t).yes = g t.yes := by unfold tdNam; rw [if_pos h]
theorem tdStr_len (l : List Blk) : (tdStr l).length = l.length := List.length_map ..
theorem tdStr_at (l : List Blk) (k : Nat) (hk : k < l.length) : (tdStr l).getD k blkNone = ⟨(l.getD k blkNone).ops, tdNam (tdLeads l) (l.getD k blkNone).term⟩ := by
  unfold tdStr
  rw [List.getD_eq_getElem?_getD, List.getElem?_map, List.getD_eq_getElem?_getD, List.getElem?_eq_getElem hk]; rfl
theorem tdStr_ok {l : List Blk} (hl : TdOk l) : TdOk (tdStr l) := by
  intro b hb
  obtain ⟨c, hc, rfl⟩ := List.mem_map.1 hb
  rw [tdStr_len]
  exact tdNam_ok (fun k hk => tdLeads_lab hl hk) (hl c hc)
theorem tdStr_det (l : List Blk) {k : Int} (h0 : 0 ≤ k) (h1 : k < l.length) : tdDet (tdAt (tdStr l) k) = tdDet (tdAt l k) := by
  unfold tdAt
  rw [tdStr_at l k.toNat (by omega)]
  unfold tdDet
  rw [tdNam_kind]
theorem tdStr_stop (l : List Blk) {k : Int} (h : tdLab l.length k) : tdStop (tdStr l) k = tdStop l k := by
  unfold tdStop
  by_cases hk : k = -1
  · rw [decide_eq_true hk]; rfl
  · obtain ⟨a, b⟩ := tdLab_zero h hk
    rw [tdStr_det l a b]
/-- A way of which all that comes up keeps to a set. -/
theorem tdPath_set {l : List Blk} (S : Int → Prop) (hS : ∀ y, S y → tdStop l y = false ∧ S (tdNext l y)) {x : Int} (hx : S x) : ∀ m, S (tdPath l m x) ∧ tdStop l (tdPath l m x) = false
  | 0 => ⟨hx, (hS x hx).1⟩
  | m + 1 => by
    obtain ⟨h1, h2⟩ := tdPath_set S hS hx m
    have h3 : tdPath l (m + 1) x = tdNext l (tdPath l m x) := by rw [tdPath_succ, tdStep_go h2]
    rw [h3]
    exact ⟨(hS _ h1).2, (hS _ (hS _ h1).2).1⟩
def TdRing (l : List Blk) (x : Int) : Prop := ∀ m, tdStop l (tdPath l m x) = false
theorem TdRing.next {l : List Blk} {x : Int} (h : TdRing l x) : tdStop l x = false ∧ TdRing l (tdNext l x) := by
  have h0 : tdStop l x = false := h 0
  refine ⟨h0, fun m => ?_⟩
  have := h (1 + m)
  rw [tdPath_add] at this
  have e : tdPath l 1 x = tdNext l x := by rw [tdPath_succ]; exact tdStep_go h0
  rw [e] at this
  exact this
/-- A block that may be named: no detour, or of a ring. -/
def tdFix (l : List Blk) (x : Int) : Prop := tdStop l x = true ∨ TdRing l x
theorem tdLeads_fix {l : List Blk} {x : Int} (h : tdFix l x) : tdLeads l x = x := by
  rcases h with h | h
  · exact tdLeads_stop (m := 0) (Nat.zero_le _) h
  · exact tdLeads_ring h
/-- Where a way stops at all, it does so within as many steps as there are blocks. -/
theorem td_within {l : List Blk} (hl : TdOk l) {x : Int} (hx : tdLab l.length x) : ∀ j, (∀ i, i < j → tdStop l (tdPath l i x) = false) → (∃ s, TdSeen l x j s) ∨ TdRing l x
  | 0, _ => Or.inl ⟨_, TdSeen.start l x⟩
  | j + 1, h => by
    rcases td_within hl hx j (fun i hi => h i (by omega)) with ⟨s, hs⟩ | hr
    · have h1 := h j (by omega)
      obtain ⟨h2, _⟩ := tdStop_false h1
      obtain ⟨a, b⟩ := tdLab_zero (tdPath_lab hl hx j) h2
      cases hm : s.getD (tdPath l j x).toNat false with
      | false => exact Or.inl ⟨_, hs.step a b h1 hm⟩
      | true =>
        obtain ⟨i, hi, he, hp⟩ := hs.mark _ hm
        exact Or.inr (tdPath_ring hi (by omega) h1)
    · exact Or.inr hr
theorem tdLeads_cases {l : List Blk} (hl : TdOk l) {x : Int} (hx : tdLab l.length x) : tdStop l (tdLeads l x) = true ∨ (TdRing l x ∧ tdLeads l x = x) := by
  by_cases h : tdStop l (tdPath l l.length x) = true
  · left
    unfold tdLeads
    rw [if_pos h]; exact h
  · have h : tdStop l (tdPath l l.length x) = false := by simpa using h
    have hall : ∀ i, i < l.length + 1 → tdStop l (tdPath l i x) = false := fun i hi => by
      cases hs : tdStop l (tdPath l i x) with
      | false => rfl
      | true => rw [tdPath_stay hs (show i ≤ l.length by omega), hs] at h; cases h
    rcases td_within hl hx (l.length + 1) hall with ⟨s, hs⟩ | hr
    · have := hs.le; omega
    · exact Or.inr ⟨hr, tdLeads_ring hr⟩
theorem tdStr_next (l : List Blk) {k : Int} (h0 : 0 ≤ k) (h1 : k < l.length) (hk : (tdAt l k).term.kind = 1) : tdNext (tdStr l) k = tdLeads l (tdNext l k) := by
  unfold tdNext
  have e : tdAt (tdStr l) k = ⟨(tdAt l k).ops, tdNam (tdLeads l) (tdAt l k).term⟩ := tdStr_at l k.toNat (by omega)
  rw [e]
  exact tdNam_yes hk
theorem tdNext_lab {l : List Blk} (hl : TdOk l) {k : Int} (h : tdLab l.length k) (hs : tdStop l k = false) : tdLab l.length (tdNext l k) := by
  have := tdStep_lab hl h
  rw [tdStep_go hs] at this
  exact this
theorem tdRing_str {l : List Blk} (hl : TdOk l) {x : Int} (hx : tdLab l.length x) (h : TdRing l x) : TdRing (tdStr l) x := by
  refine fun m => (tdPath_set (fun y => tdLab l.length y ∧ TdRing l y) (fun y hy => ?_) ⟨hx, h⟩ m).2
  obtain ⟨hy1, hy2⟩ := hy
  obtain ⟨h1, h2⟩ := hy2.next
  obtain ⟨h3, h4⟩ := tdStop_false h1
  obtain ⟨a, b⟩ := tdLab_zero hy1 h3
  have e := tdStr_next l a b (tdDet_true h4).2
  rw [tdLeads_ring h2] at e
  rw [tdStr_stop l hy1, e]
  exact ⟨h1, tdNext_lab hl hy1 h1, h2⟩
theorem tdStr_fix {l : List Blk} (hl : TdOk l) {x : Int} (hx : tdLab l.length x) : tdFix (tdStr l) (tdLeads l x) := by
  rcases tdLeads_cases hl hx with h | ⟨h, e⟩
  · left; rw [tdStr_stop l (tdLeads_lab hl hx)]; exact h
  · right; rw [e]; exact tdRing_str hl hx h
/-- No block that is there names a detour, but of rings. -/
def TdGood (l : List Blk) (s : List Bool) : Prop := ∀ i, s.getD i false = true → ∀ x ∈ tdTg (l.getD i blkNone).term, tdFix l x
theorem tdOne_nam {g : Int → Int} {n : Nat} {k x : Int} (h : tdLab n k) (hg : g (-1) = -1) (hx : x ∈ tdOne (g k)) : ∃ y, tdLab n y ∧ x = g y ∧ y ∈ tdOne k := by
  refine ⟨k, h, ?_, ?_⟩
  · unfold tdOne at hx
    split at hx
    · cases hx
    · exact List.mem_singleton.1 hx
  · unfold tdOne at hx ⊢
    by_cases e : k = -1
    · rw [e, hg, if_pos rfl] at hx; cases hx
    · rw [if_neg e]; simp
theorem tdTg_nam {g : Int → Int} {n : Nat} {t : Trm} (h : tdOkT n t) (hg : g (-1) = -1) {x : Int} (hx : x ∈ tdTg (tdNam g t)) : ∃ y, tdLab n y ∧ x = g y ∧ y ∈ tdTg t := by
  unfold tdTg at hx ⊢
  rw [tdNam_kind] at hx
  rcases h with ⟨hk, h1⟩ | ⟨hk, h1, h2⟩ | hk
  · rw [if_pos hk] at hx ⊢
    unfold tdNam at hx
    rw [if_pos hk] at hx
    exact tdOne_nam h1 hg hx
  · have hk1 : ¬ t.kind = 1 := by omega
    rw [if_neg hk1, if_pos hk] at hx ⊢
    unfold tdNam at hx
    rw [if_neg hk1, if_pos hk] at hx
    rcases List.mem_append.1 hx with hx | hx
    · obtain ⟨y, a, b, c⟩ := tdOne_nam h1 hg hx
      exact ⟨y, a, b, List.mem_append_left _ c⟩
    · obtain ⟨y, a, b, c⟩ := tdOne_nam h2 hg hx
      exact ⟨y, a, b, List.mem_append_right _ c⟩
  · rw [if_neg (by omega), if_neg (by omega)] at hx; cases hx
theorem tdLeads_none (l : List Blk) : tdLeads l (-1) = -1 := tdLeads_fix (Or.inl rfl)
theorem tdStr_good {l : List Blk} (hl : TdOk l) (s : List Bool) (hs : s.length = l.length) : TdGood (tdStr l) s := by
  intro i hi x hx
  have hil : i < l.length := by have := flag_lt hi; rw [hs] at this; exact this
  rw [tdStr_at l i hil] at hx
  obtain ⟨y, hy, rfl, _⟩ := tdTg_nam (hl.at_ i hil) (tdLeads_none l) hx
  exact tdStr_fix hl hy
theorem TdGood.put {cnt : Int → Nat} {l : List Blk} {s : List Bool} {k : Nat} (h : TdInv cnt l s) (hg : TdGood l s) (hk : s.getD k false = true) (hc : tdCan cnt l k = true) : TdGood (tdPut l k) (s.set (tdTo l k).toNat false) := by
  obtain ⟨c, e, hck, hc0, hcl, hkl, hcs, htg, hno⟩ := h.only hk hc
  have hk1 := (tdCan_of hc).1
  have hat := tdPut_at (l := l) hkl
  rw [e, Int.toNat_natCast] at hat ⊢
  have hcl2 : c < s.length := by rw [h.len]; exact hcl
  have hcc : (c : Int) ∉ tdTg (l.getD c blkNone).term := hno c hcs hck
  -- whatever is named by a block that is there stays such
  have key : ∀ j x, s.getD j false = true → x ∈ tdTg (l.getD j blkNone).term → (c : Int) ∉ tdTg (l.getD j blkNone).term → tdFix (tdPut l k) x := fun j x hj hxj hcj => by
    have hjl : j < l.length := by have := flag_lt hj; rw [h.len] at this; exact this
    have hlab := tdTg_lab (h.ok.at_ j hjl) hxj
    have hxc : x ≠ (c : Int) := fun e => hcj (e ▸ hxj)
    have hxs := h.closed j hj x hxj
    have hdk : ∀ y : Int, 0 ≤ y → y ≠ -1 := fun y hy => by omega
    have hstop : ∀ y : Int, 0 ≤ y → tdStop l y = !tdDet (tdAt l y) := fun y hy => by unfold tdStop; rw [decide_eq_false (hdk y hy)]; rfl
    have hstop2 : ∀ y : Int, 0 ≤ y → tdStop (tdPut l k) y = !tdDet (tdAt (tdPut l k) y) := fun y hy => by unfold tdStop; rw [decide_eq_false (hdk y hy)]; rfl
    have hat2 : ∀ y : Int, tdAt (tdPut l k) y = if y.toNat = k then ⟨(l.getD k blkNone).ops ++ (l.getD c blkNone).ops, (l.getD c blkNone).term⟩ else tdAt l y := fun y => hat y.toNat
    rcases hg j hj x hxj with h1 | h1
    · left
      rw [hstop x hlab.1] at h1
      rw [hstop2 x hlab.1, hat2]
      by_cases hxk : x.toNat = k
      · rw [if_pos hxk]
        have h2 : tdDet (tdAt l x) = false := by simpa using h1
        have h3 : (l.getD k blkNone).ops ≠ [] := fun h4 => by
          have h5 : tdAt l x = l.getD k blkNone := by unfold tdAt; rw [hxk]
          rw [h5, tdDet_of h4 hk1] at h2
          cases h2
        unfold tdDet
        cases ho : (l.getD k blkNone).ops with
        | nil => exact absurd ho h3
        | cons a b => rfl
      · rw [if_neg hxk]; exact h1
    · right
      refine fun m => (tdPath_set (fun y => TdRing l y ∧ 0 ≤ y ∧ y < l.length ∧ s.getD y.toNat false = true ∧ y ≠ (c : Int)) (fun y hy => ?_) ⟨h1, hlab.1, hlab.2, hxs, hxc⟩ m).2
      obtain ⟨hy1, hy2, hy3, hy4, hy5⟩ := hy
      obtain ⟨n1, n2⟩ := hy1.next
      have hyd := (tdStop_false n1).2
      obtain ⟨ho, ht⟩ := tdDet_true hyd
      have hnl := tdNext_lab h.ok ⟨by omega, hy3⟩ n1
      have hn1 : tdNext l y ≠ -1 := (tdStop_false n2.next.1).1
      obtain ⟨na, nb⟩ := tdLab_zero hnl hn1
      have hymem : tdNext l y ∈ tdTg (l.getD y.toNat blkNone).term := by
        unfold tdTg
        rw [if_pos (show (l.getD y.toNat blkNone).term.kind = 1 from ht)]
        unfold tdOne
        rw [if_neg (show ¬ (l.getD y.toNat blkNone).term.yes = -1 from hn1)]
        exact List.mem_singleton.2 rfl
      have hns := h.closed y.toNat hy4 _ hymem
      by_cases hyk : y.toNat = k
      · -- behind k comes what came behind c
        have hyl : tdAt l y = l.getD k blkNone := by unfold tdAt; rw [hyk]
        have hnc : tdNext l y = (c : Int) := by rw [← e]; unfold tdNext tdTo; rw [hyl]
        rw [hnc] at n2
        obtain ⟨c1, c2⟩ := n2.next
        obtain ⟨co, ct⟩ := tdDet_true (tdStop_false c1).2
        have hcat : tdAt l (c : Int) = l.getD c blkNone := rfl
        have hcn1 : tdNext l (c : Int) ≠ -1 := (tdStop_false c2.next.1).1
        have hcl3 := tdNext_lab h.ok (show tdLab l.length (c : Int) by unfold tdLab; omega) c1
        obtain ⟨ca, cb⟩ := tdLab_zero hcl3 hcn1
        have hcmem : tdNext l (c : Int) ∈ tdTg (l.getD c blkNone).term := by
          unfold tdTg
          rw [if_pos (show (l.getD c blkNone).term.kind = 1 from ct)]
          unfold tdOne
          rw [if_neg (show ¬ (l.getD c blkNone).term.yes = -1 from hcn1)]
          exact List.mem_singleton.2 rfl
        have e2 : tdAt (tdPut l k) y = ⟨(l.getD k blkNone).ops ++ (l.getD c blkNone).ops, (l.getD c blkNone).term⟩ := by rw [hat2, if_pos hyk]
        rw [hyl] at ho
        have e3 : tdNext (tdPut l k) y = tdNext l (c : Int) := by unfold tdNext; rw [e2]; rfl
        refine ⟨?_, ?_⟩
        · have hd : tdDet (⟨(l.getD k blkNone).ops ++ (l.getD c blkNone).ops, (l.getD c blkNone).term⟩ : Blk) = true := tdDet_of (by show (l.getD k blkNone).ops ++ (l.getD c blkNone).ops = []; rw [ho]; exact co) ct
          rw [hstop2 y hy2, e2, hd]; rfl
        · rw [e3]
          exact ⟨c2, ca, cb, h.closed c hcs _ hcmem, fun h6 => hcc (h6 ▸ hcmem)⟩
      · have e2 : tdAt (tdPut l k) y = tdAt l y := by rw [hat2, if_neg hyk]
        have e3 : tdNext (tdPut l k) y = tdNext l y := by unfold tdNext; rw [e2]
        refine ⟨?_, ?_⟩
        · rw [hstop2 y hy2, e2, hyd]; rfl
        · rw [e3]
          exact ⟨n2, na, nb, hns, fun h6 => hno y.toNat hy4 hyk (h6 ▸ hymem)⟩
  intro i hi x hx
  obtain ⟨hic, his⟩ := (flag_set hcl2).1 hi
  rw [hat] at hx
  by_cases hik : i = k
  · rw [if_pos hik] at hx
    exact key c x hcs hx hcc
  · rw [if_neg hik] at hx
    exact key i x his hx (hno i his hik)
end Go.Proofs.Ythkobddggoojlaa
