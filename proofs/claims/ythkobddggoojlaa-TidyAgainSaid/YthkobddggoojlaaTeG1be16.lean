/- Parts of a proof. No condition but those that each theorem names. -/
import Derived.WalkKit
import Derived.OpenShut
import Derived.Below
import Derived.Lib.Hide
import Derived.Laws.OwnMore
import Derived.Deep.QuietTactic
import Derived.Deep.AppendLies
import Derived.ProofKit
import Derived.SizedLaws
import Derived.Test.YthkobddggoojlaaProg
import Derived.Handy
import Derived.Deep.RegionHeld3
import Derived.BigQuiet
import Derived.Maps.AppendAt
import Derived.Maps.RangeWalk
import Derived.Maps.OwnSet
import Derived.StillTailTactics
import Derived.Laws.CopyOwn
import Derived.Lib.BufferWrite
import Derived.OrdersHeld
import Derived.RegionTactic
import Derived.Test.YthkobddggoojlaaTeG0e0
import Derived.Test.YthkobddggoojlaaTeG0e2
import Derived.Test.YthkobddggoojlaaTeG1e16
namespace Go.Proofs.Ythkobddggoojlaa
open Go.RowKit
set_option linter.unusedVariables false
set_option maxRecDepth 100000 in
set_option maxHeartbeats 1000000 in
theorem law23_passes (q : List Blk) (hq : TdOk q) (hn : q.length ≤ 1048576) (A : Option Addr) (c B : Nat) (x : Int) (hx : tdLab q.length x) (hf : tdFix q x) (w : World) (h : SlRep blkEnc w B (.slice A q.length c) q) :
    Calls Try.prog 12 #[.slice A q.length c, .int .i64 x] w fun e w' => e = .returned (.bool false) ∧ w' = w := by
  have HR := Lib.hid h
  have HF := Lib.hid hf
  have HLAB : Hid (∀ n, tdLab q.length (tdPath q n x)) := Lib.hid (fun n => tdPath_lab hq hx n)
  clear h hf hx
  go_enter Try.func12, Try.ntmps12
  go_wp2_with fail
  go_loop [1, 5] (fun vk vn => ∃ n : Nat, n ≤ q.length + 1 ∧ vk = .int .i64 (tdPath q n x) ∧ vn = .int .i64 n ∧ Hid (n = 0 ∨ TdRing q x)) (fun _ vn => q.length + 1 - (intOf vn).toNat)
  case atStart => exact ⟨0, Nat.zero_le _, rfl, rfl, Lib.hid (Or.inl rfl)⟩
  case round =>
    obtain ⟨n, hk, rfl, rfl, HOR⟩ := hrel
    by_cases hlt : n ≤ q.length
    · obtain ⟨y, hy⟩ : ∃ y, tdPath q n x = y := ⟨_, rfl⟩
      have HLN := HLAB.out n
      have HNX : Hid (tdStop q y = false → tdPath q (n + 1) x = (q.getD y.toNat blkNone).term.yes) := Lib.hid (fun hs => by rw [tdPath_succ, hy, tdStep_go hs]; rfl)
      rw [hy] at HLN ⊢
      have HY := Lib.hid hy
      clear hy
      by_cases hst : tdStop q y = true
      · have h0 : n = 0 := by
          rcases HOR.out with h0 | h0
          · exact h0
          · have h1 := h0 n
            rw [HY.out, hst] at h1
            cases h1
        subst h0
        by_cases e1 : y = -1
        · subst e1
          clear hst HNX HLN
          go_wp2_with fail
          go_ret
          exact ⟨rfl, rfl⟩
        · obtain ⟨m, rfl⟩ : ∃ m : Nat, y = m := ⟨y.toNat, by have := HLN.1; omega⟩
          have hm : m < q.length := by have := HLN.2; omega
          obtain ⟨b, off, rfl, hb0, OA, oc, hops, hoc, x0, x1, x2, x3, x4⟩ := blk_at HR.out m hm
          obtain ⟨bk, hbk⟩ : ∃ bk, q.getD m blkNone = bk := ⟨_, rfl⟩
          have HST : Hid (tdDet bk = false) := Lib.hid (by
            unfold tdStop tdAt at hst
            rw [Int.toNat_natCast, hbk, decide_eq_false e1] at hst
            simpa using hst)
          rw [hbk] at x0 x1 x2 x3 x4 hoc hops
          clear hbk
          obtain ⟨ops, trm⟩ := bk
          obtain ⟨tk, ta, ty, tn⟩ := trm
          simp only at x0 x1 x2 x3 x4 hoc
          have HOC := Lib.hid hoc
          have k0 : (0 : Int) ≤ (m : Int) := by omega
          have k1 : (m : Int) < (q.length : Int) := by omega
          have k2 : ¬ ((m : Int) < 0) := by omega
          by_cases e2 : ops.length = 0
          · have e3 : ¬ tk = 1 := by
              intro e
              have h9 := HST.out
              have h8 : ops = [] := List.eq_nil_of_length_eq_zero e2
              rw [tdDet_of h8 e] at h9
              cases h9
            rw [e2] at x0
            clear hst HNX HLN hops hoc
            go_wp2_with fail
            go_ret
            exact ⟨rfl, rfl⟩
          · have e3 : (0 : Int) < (ops.length : Int) := by omega
            clear hst HNX HLN hops hoc
            go_wp2_with fail
            go_ret
            exact ⟨rfl, rfl⟩
      · have hs : tdStop q y = false := by simpa using hst
        have HRG : Hid (n + 1 = 0 ∨ TdRing q x) := Lib.hid (Or.inr (by
          rcases HOR.out with h0 | h0
          · subst h0
            rcases HF.out with h1 | h1
            · exact absurd (HY.out ▸ h1) hst
            · exact h1
          · exact h0))
        have hnx := HNX.out hs
        have e1 : y ≠ -1 := fun e => hst (by unfold tdStop; rw [e]; rfl)
        obtain ⟨m, rfl⟩ : ∃ m : Nat, y = m := ⟨y.toNat, by have := HLN.1; omega⟩
        have hm : m < q.length := by have := HLN.2; omega
        obtain ⟨b, off, rfl, hb0, OA, oc, hops, hoc, x0, x1, x2, x3, x4⟩ := blk_at HR.out m hm
        obtain ⟨bk, hbk⟩ : ∃ bk, q.getD m blkNone = bk := ⟨_, rfl⟩
        unfold tdStop tdAt at hs
        rw [Int.toNat_natCast, hbk, decide_eq_false e1] at hs
        rw [Int.toNat_natCast, hbk] at hnx
        have hs2 : tdDet bk = true := by simpa using hs
        obtain ⟨d1, d2⟩ := tdDet_true hs2
        rw [hbk] at x0 x1 x2 x3 x4 hoc hops
        clear hbk hs2
        obtain ⟨ops, trm⟩ := bk
        obtain ⟨tk, ta, ty, tn⟩ := trm
        simp only at x0 x1 x2 x3 x4 d1 d2 hnx
        subst d1 d2
        simp only [List.length_nil] at x0
        have HNX2 := Lib.hid hnx
        have k0 : (0 : Int) ≤ (m : Int) := by omega
        have k1 : (m : Int) < (q.length : Int) := by omega
        have k2 : ¬ ((m : Int) < 0) := by omega
        clear hst hs HNX HLN hops hoc e1 hnx
        go_wp2_with fail
        go_round
        case rel => exact ⟨n + 1, by omega, by rw [HNX2.out], by go_num, HRG⟩
        case measure => simp [intOf]; omega
    · obtain rfl : n = q.length + 1 := by omega
      have hnl : ¬ (((q.length + 1 : Nat) : Int) ≤ (q.length : Int)) := by omega
      generalize tdPath q (q.length + 1) x = y at *
      go_wp2_with fail
      go_ret
      exact ⟨rfl, rfl⟩
end Go.Proofs.Ythkobddggoojlaa
