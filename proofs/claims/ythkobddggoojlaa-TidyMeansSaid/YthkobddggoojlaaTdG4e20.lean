/- Parts of a proof. No condition but those that each theorem names. -/
import Derived.WalkKit
import Derived.OpenShut
import Derived.Below
import Derived.Lib.Hide
import Derived.Laws.OwnMore
import Derived.Deep.QuietTactic
import Derived.Deep.AppendLies
import Derived.ProofKit
import Derived.SizedLaws
import Derived.Test.YthkobddggoojlaaProg
import Derived.Handy
import Derived.Deep.RegionHeld3
import Derived.BigQuiet
import Derived.Maps.AppendAt
import Derived.StillTailTactics
import Derived.Laws.CopyOwn
import Derived.Lib.BufferWrite
import Derived.OrdersHeld
import Derived.RegionTactic
import Derived.Deep.DeepCutAuto
import Derived.Test.YthkobddggoojlaaTdG0e0
import Derived.Test.YthkobddggoojlaaTdG0e1
import Derived.Test.YthkobddggoojlaaTdIr
import Derived.Test.YthkobddggoojlaaTdG1e2
import Derived.Test.YthkobddggoojlaaTdG1e4
import Derived.Test.YthkobddggoojlaaTdIrC
import Derived.Test.YthkobddggoojlaaTdG2e5
import Derived.Test.YthkobddggoojlaaTdG2e17
import Derived.Test.YthkobddggoojlaaTdTrB
import Derived.Test.YthkobddggoojlaaTdTrC
namespace Go.Proofs.Ythkobddggoojlaa
open Go.RowKit
set_option linter.unusedVariables false
theorem tdTg_len (t : Trm) : (tdTg t).length ≤ 2 := by
  have h : ∀ k, (tdOne k).length ≤ 1 := fun k => by unfold tdOne; split <;> simp
  unfold tdTg
  split
  · have := h t.yes; omega
  · split
    · rw [List.length_append]
      have := h t.yes
      have := h t.no
      omega
    · simp
theorem tdNm_le (l : List Blk) (s : List Bool) (x : Int) (i : Nat) : tdNm l s x i ≤ 2 := by
  unfold tdNm
  split
  · have h1 := tdTg_len (l.getD i blkNone).term
    have h2 : (tdTg (l.getD i blkNone).term).count x ≤ (tdTg (l.getD i blkNone).term).length := List.count_le_length
    omega
  · omega
theorem tdSum_nm_le (l : List Blk) (s : List Bool) (x : Int) : ∀ i, tdSum (tdNm l s x) i ≤ 2 * i
  | 0 => Nat.le_refl _
  | i + 1 => by
    have h1 := tdSum_nm_le l s x i
    have h2 := tdNm_le l s x i
    show tdSum (tdNm l s x) i + tdNm l s x i ≤ _
    omega
def OnlyPost (l : List Blk) (s : List Bool) (b : Nat) (w : World) (e : Ending) (w' : World) : Prop := e = .returned (.int .i64 (if tdCan (tdCnt l s) l b = true then tdTo l b else -1)) ∧ Below w.heap.size w w'
set_option maxRecDepth 100000 in
set_option maxHeartbeats 8000000 in
theorem ref23_only (l : List Blk) (hl : TdOk l) (hn : l.length ≤ 1048576) (s : List Bool) (hs : s.length = l.length) (A : Option Addr) (c : Nat) (b : Nat) (hb : b < l.length) (V : Nat) (w : World) (h : SlRep blkEnc w w.heap.size (.slice A l.length c) l) (hv : w.heap[V]? = some (.cells (bools s) 4 (0, 0))) :
    Calls Try.prog 22 #[.slice A l.length c, .slice (some ⟨V, 0, none⟩) l.length l.length, .int .i64 (b : Int)] w (OnlyPost l s b w) := by
  have HL := Lib.hid h
  have HV := Lib.hid hv
  have HNM := Lib.hid (fun t k W => ref23_names t k W)
  have HNC := Lib.hid (fun i (hi : i < l.length) (k : Int) (hk : 0 ≤ k) => tdNames_count (hl.at_ i hi) hk)
  have HLB : Hid (tdOkT l.length (l.getD b blkNone).term) := Lib.hid (hl.at_ b hb)
  have hcan : tdCan (tdCnt l s) l b = (decide ((l.getD b blkNone).term.kind = 1) && (!decide (tdTo l b = b) && (!decide (tdTo l b = 0) && (!decide (tdTo l b = -1) && decide (tdCnt l s (tdTo l b) = 1))))) := rfl
  have hto : tdTo l b = (l.getD b blkNone).term.yes := rfl
  have hsum : tdCnt l s (tdTo l b) = tdSum (tdNm l s (tdTo l b)) l.length := rfl
  generalize hPO : OnlyPost l s b w = PO
  have HPO := Lib.hid hPO
  obtain ⟨gb, off, e, hb0, OA, oc, hops, hoc, x0, x1, x2, x3, x4⟩ := blk_at h b hb
  subst e
  have b0 : (0 : Int) ≤ (b : Int) := by omega
  have b1 : (b : Int) < (l.length : Int) := by omega
  rw [← hto] at x3
  generalize hcc : tdTo l b = cc at *
  have HTO := Lib.hid hcc
  clear hcc
  have hki : (l.getD b blkNone).term.kind = (l.getD b blkNone).term.kind := rfl
  generalize hkk : (l.getD b blkNone).term.kind = kk at *
  have HCAN := Lib.hid hcan
  have HSUM := Lib.hid hsum
  have hc1 : kk = 1 → -1 ≤ cc := fun hk => by
    rcases HLB.out with ⟨_, hx⟩ | ⟨hx, _⟩ | hx
    · rw [← hto] at hx; exact hx.1
    · rw [hkk] at hx; omega
    · rw [hkk] at hx; omega
  clear h hv hl hPO hops hcan hsum hki x0 x2 x4
  by_cases hk : kk = 1
  · subst hk
    have hcm := hc1 rfl
    by_cases hcb : cc = (b : Int)
    · have qb : (cc == (b : Int)) = true := by rw [beq_iff_eq]; exact hcb
      have HE : Hid (tdCan (tdCnt l s) l b = false) := Lib.hid (by rw [HCAN.out]; simp [hcb])
      clear hcb hkk hc1 hto
      go_enter Try.func22, Try.ntmps22
      go_wp2_with fail
      rw [← HPO.out]
      exact ⟨by rw [HE.out]; rfl, Below.refl _ _⟩
    · have qb : (cc == (b : Int)) = false := by rw [beq_eq_false_iff_ne]; exact hcb
      by_cases hcz : cc ≤ 0
      · have HE : Hid (tdCan (tdCnt l s) l b = false) := Lib.hid (by
          rw [HCAN.out]
          have h9 : cc = 0 ∨ cc = -1 := by omega
          rcases h9 with h9 | h9 <;> simp [h9])
        clear hcb hkk hc1 hto
        go_enter Try.func22, Try.ntmps22
        go_wp2_with fail
        rw [← HPO.out]
        exact ⟨by rw [HE.out]; rfl, Below.refl _ _⟩
      · have hcp : 0 < cc := by omega
        have HE : Hid (tdCan (tdCnt l s) l b = decide (tdSum (tdNm l s cc) l.length = 1)) := Lib.hid (by
          rw [HCAN.out, HSUM.out, decide_eq_false hcb, decide_eq_false (show ¬ cc = 0 by omega), decide_eq_false (show ¬ cc = -1 by omega)]; rfl)
        have HCP := Lib.hid hcp
        have HBD := Lib.hid (fun i => tdSum_nm_le l s cc i)
        have HCX := Lib.hid hcz
        clear hcb hkk hc1 hto hcm
        go_enter Try.func22, Try.ntmps22
        go_wp2_with fail
        clear x1 x3 hcz
        go_loopw [8, 9] (fun vn vi wr => ∃ i : Nat, i ≤ l.length ∧ vn = .int .i64 (tdSum (tdNm l s cc) i : Nat) ∧ vi = .int .i64 i ∧ Below w.heap.size w wr) (fun _ vi _ => l.length - (intOf vi).toNat)
        case atStart => exact ⟨0, Nat.zero_le _, rfl, rfl, Below.refl _ _⟩
        case round =>
          obtain ⟨i, hi, rfl, rfl, hbw⟩ := hrel
          have HB := Lib.hid hbw
          have hbd := HBD.out i
          by_cases hil : i < l.length
          · have hvw := (hbw.block _ (lt_of_blk HV.out)).trans HV.out
            have z0 := (cell_of_blk hvw i).1
            rw [bools_at (show i < s.length by omega)] at z0
            have hst : tdSum (tdNm l s cc) (i + 1) = tdSum (tdNm l s cc) i + tdNm l s cc i := rfl
            have hnm : tdNm l s cc i = if s.getD i false = true then (tdTg (l.getD i blkNone).term).count cc else 0 := rfl
            have hnl := tdNm_le l s cc i
            have i0 : (0 : Int) ≤ (i : Int) := by omega
            have i1 : (i : Int) < (l.length : Int) := by omega
            cases hsi : s.getD i false with
            | false =>
              rw [hsi] at z0 hnm
              have HST : Hid (tdSum (tdNm l s cc) (i + 1) = tdSum (tdNm l s cc) i) := Lib.hid (by rw [hst, hnm]; rfl)
              generalize tdSum (tdNm l s cc) i = S0 at *
              clear hsi hnm hst hbw hvw
              go_wp2_with fail
              go_roundw
              case rel => exact ⟨i + 1, by omega, by rw [HST.out], by go_num, HB.out⟩
              case measure => simp [intOf]; omega
            | true =>
              rw [hsi, if_pos rfl, ← HNC.out i hil cc (by have := HCP.out; omega)] at hnm
              rw [hsi] at z0
              obtain ⟨gi, offi, e, hgi, OAi, oci, hopsi, hoci, y0, y1, y2, y3, y4⟩ := blk_at (HL.out.below hbw (Nat.le_refl _)) i hil
              injection e with e
              injection e with e1 e2
              subst e1 e2
              rw [hnm] at hst hnl
              generalize hbk : (l.getD i blkNone).term = trm at *
              obtain ⟨tk, ta, ty, tn⟩ := trm
              have HNMI := Lib.hid (fun W => HNM.out ⟨tk, ta, ty, tn⟩ cc W)
              unfold trmVal at HNMI
              simp only at HNMI y1 y2 y3 y4
              have HST := Lib.hid hst
              generalize tdNames ⟨tk, ta, ty, tn⟩ cc = nn at *
              generalize tdSum (tdNm l s cc) i = S0 at *
              clear hsi hnm hst hbw hvw hopsi hbk
              go_wp2_with fail
              refine (HNMI.out _).mono ?_
              rintro e w5 ⟨rfl, hb5⟩
              go_wp2_with fail
              go_roundw
              case rel => exact ⟨i + 1, by omega, by rw [HST.out]; go_num, by go_num, bch HB.out hb5⟩
              case measure => simp [intOf]; omega
          · obtain rfl : i = l.length := by omega
            generalize tdSum (tdNm l s cc) l.length = S0 at *
            by_cases h1 : S0 = 1
            · subst h1
              have HE3 : Hid (tdCan (tdCnt l s) l b = true) := Lib.hid (by rw [HE.out]; simp)
              go_wp2_with fail
              rw [← HPO.out]
              exact ⟨by rw [HE3.out, if_pos rfl, HTO.out], HB.out⟩
            · have q : (((S0 : Nat) : Int) != 1) = true := by rw [bne_iff_ne]; omega
              have HE2 : Hid (tdCan (tdCnt l s) l b = false) := Lib.hid (by rw [HE.out]; exact decide_eq_false h1)
              clear h1
              go_wp2_with fail
              rw [← HPO.out]
              exact ⟨by rw [HE2.out]; rfl, HB.out⟩
  · have q : (kk != 1) = true := by rw [bne_iff_ne]; exact hk
    have HE : Hid (tdCan (tdCnt l s) l b = false) := Lib.hid (by rw [HCAN.out, decide_eq_false hk]; rfl)
    clear hk hkk hc1 hto
    go_enter Try.func22, Try.ntmps22
    go_wp2_with fail
    rw [← HPO.out]
    exact ⟨by rw [HE.out]; rfl, Below.refl _ _⟩
end Go.Proofs.Ythkobddggoojlaa
