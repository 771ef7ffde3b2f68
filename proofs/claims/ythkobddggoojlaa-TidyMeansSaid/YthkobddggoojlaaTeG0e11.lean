/- Parts of a proof. No condition but those that each theorem names. -/
import Derived.WalkKit
import Derived.OpenShut
import Derived.Below
import Derived.Lib.Hide
import Derived.Laws.OwnMore
import Derived.Deep.QuietTactic
import Derived.Deep.AppendLies
import Derived.ProofKit
import Derived.SizedLaws
import Derived.Test.YthkobddggoojlaaProg
import Derived.Handy
import Derived.BigQuiet
import Derived.Test.YthkobddggoojlaaTeG0e0
import Derived.Test.YthkobddggoojlaaTeG0e2
namespace Go.Proofs.Ythkobddggoojlaa
open Go.RowKit
def lets (k : Int) : ByteArray :=
  if k = 1 then ⟨#[100, 110]⟩ else if k = 2 ∨ k = 10 then ⟨#[100, 97]⟩ else if 11 ≤ k ∧ k ≤ 13 then ⟨#[100, 97, 115]⟩ else if k = 17 then ⟨#[100, 97, 98, 99]⟩ else if k = 18 then ⟨#[100, 97, 114]⟩
  else if k = 19 then ⟨#[97, 98, 114]⟩ else if 3 ≤ k ∧ k ≤ 16 then ⟨#[100, 97, 98]⟩ else ⟨#[]⟩
set_option maxHeartbeats 4000000 in
theorem ref_letters (k : Int) (w : World) : Calls Try.prog 54 #[.int .i64 k] w fun e w' => e = .returned (.string (lets k)) ∧ Below w.heap.size w w' := by
  by_cases h : 1 ≤ k ∧ k ≤ 19
  · have hk : k = 1 ∨ k = 2 ∨ k = 3 ∨ k = 4 ∨ k = 5 ∨ k = 6 ∨ k = 7 ∨ k = 8 ∨ k = 9 ∨ k = 10 ∨ k = 11 ∨ k = 12 ∨ k = 13 ∨ k = 14 ∨ k = 15 ∨ k = 16 ∨ k = 17 ∨ k = 18 ∨ k = 19 := by omega
    clear h
    rcases hk with rfl | rfl | rfl | rfl | rfl | rfl | rfl | rfl | rfl | rfl | rfl | rfl | rfl | rfl | rfl | rfl | rfl | rfl | rfl
    all_goals
      go_enter Try.func54, Try.ntmps54
      go_wp2_with fail
      go_ret
      exact ⟨rfl, bnew _ _⟩
  · have e : lets k = ⟨#[]⟩ := by
      unfold lets
      rw [if_neg (by omega), if_neg (by omega), if_neg (by omega), if_neg (by omega), if_neg (by omega), if_neg (by omega), if_neg (by omega)]
    rw [e]
    have h2 : k < 1 ∨ (1 ≤ k ∧ 19 < k) := by omega
    clear h e
    rcases h2 with h2 | ⟨h1, h2⟩
    all_goals
      go_enter Try.func54, Try.ntmps54
      go_wp2_with fail
      go_ret
      exact ⟨rfl, Below.refl _ _⟩
def strAt (s : ByteArray) (q : Nat) : UInt8 := s.data.toList.getD q 0
def hasC (s : ByteArray) (c : Int) : Bool := s.data.toList.any fun b => (b.toNat : Int) == c
theorem run_index_str (s : ByteArray) (q : Nat) (h1 : q < s.size) (W : World) : (Instr.index 9 (.string s) (.int .i64 (q : Int))).run Try.prog W = .ok (.int .u8 ((strAt s q).toNat : Int)) W := by
  have h0 : (0 : Int) ≤ (q : Int) := by omega
  have h2 : (q : Int) < (s.size : Int) := by omega
  simp [go_sem, h0, h1, h2, strAt]
  rfl
theorem hasC_no (s : ByteArray) (c : Int) (h : ∀ q, q < s.size → ((strAt s q).toNat : Int) ≠ c) : hasC s c = false := by
  unfold hasC
  rw [List.any_eq_false]
  intro b hb
  obtain ⟨q, hq, rfl⟩ := List.getElem_of_mem hb
  have hl : s.data.toList.length = s.size := by rw [Array.length_toList, ByteArray.size_data]
  have := h q (by omega)
  unfold strAt at this
  rw [List.getD_eq_getElem?_getD, List.getElem?_eq_getElem hq] at this
  simpa using this
theorem hasC_yes (s : ByteArray) (c : Int) (q : Nat) (hq : q < s.size) (h : ((strAt s q).toNat : Int) = c) : hasC s c = true := by
  unfold hasC
  rw [List.any_eq_true]
  have hl : s.data.toList.length = s.size := by rw [Array.length_toList, ByteArray.size_data]
  refine ⟨s.data.toList[q]'(by omega), List.getElem_mem _, ?_⟩
  unfold strAt at h
  rw [List.getD_eq_getElem?_getD, List.getElem?_eq_getElem (by omega)] at h
  simpa using h
theorem ref_has (s : ByteArray) (c : Int) (hs : s.size ≤ 1000000) (w : World) : Calls Try.prog 56 #[.string s, .int .u8 c] w fun e w' => e = .returned (.bool (hasC s c)) ∧ w = w' := by
  go_enter Try.func56, Try.ntmps56
  have HIX := Lib.hid (fun q h W => run_index_str s q h W)
  go_wp2_with fail
  go_loopw [5] (fun j wr => ∃ k : Nat, k ≤ s.size ∧ j = .int .i64 k ∧ w = wr ∧ ∀ q, q < k → ((strAt s q).toNat : Int) ≠ c) (fun j _ => s.size - (intOf j).toNat)
  case atStart => exact ⟨0, by omega, rfl, rfl, fun q hq => by omega⟩
  case round =>
    obtain ⟨k, hk, rfl, rfl, hq⟩ := hrel
    by_cases hlt : k < s.size
    · have hix := HIX.out k hlt
      have HQ := Lib.hid hq
      have k1 : (k : Int) < (s.size : Int) := by omega
      by_cases he : ((strAt s k).toNat : Int) = c
      · have hR := hasC_yes s c k hlt he
        rw [he] at hix
        have HR := Lib.hid hR
        clear hR he hq
        go_wp2_with fail
        go_ret
        exact ⟨by rw [HR.out]; rfl, rfl⟩
      · have qe : (((strAt s k).toNat : Int) == c) = false := by rw [beq_eq_false_iff_ne]; exact he
        have HQ2 : Hid (∀ q, q < k + 1 → ((strAt s q).toNat : Int) ≠ c) := Lib.hid (fun q h => by
          rcases Nat.lt_or_ge q k with h3 | h3
          · exact hq q h3
          · obtain rfl : q = k := by omega
            exact he)
        clear he hq
        go_wp2_with fail
        go_roundw
        case rel => exact ⟨k + 1, by omega, by go_num, by first | rfl | trivial, HQ2.out⟩
        case measure => simp [intOf]; omega
    · obtain rfl : k = s.size := by omega
      have HR := Lib.hid (hasC_no s c hq)
      clear hq
      go_wp2_with fail
      go_ret
      exact ⟨by rw [HR.out]; rfl, rfl⟩
theorem ref_Room (a : Arr) (w : World) : Calls Try.prog 53 #[.agg #[.int .i64 a.elem, .int .i64 a.len, .int .i64 a.kind, .int .i64 a.off]] w fun e w' => e = .returned (.int .i64 (room a)) ∧ Below w.heap.size w w' := by
  obtain ⟨x, l, k, o⟩ := a
  simp only
  by_cases hs : shapedP ⟨x, l, k, o⟩
  · have hR : room ⟨x, l, k, o⟩ = up4 (x * l) := by unfold room; rw [if_pos hs]
    rw [hR]
    obtain ⟨h2, h3, h4⟩ := hs
    simp only at h2 h3 h4
    have hN : wrap64 (x * l) = x * l ∧ 1 ≤ x * l ∧ x * l ≤ 65536 := by rcases h2 with h2 | h2 <;> rw [h2] <;> unfold wrap64 <;> omega
    obtain ⟨e1, hN1, hN2⟩ := hN
    have hu : x * l ≤ up4 (x * l) ∧ up4 (x * l) ≤ x * l + 3 ∧ up4 (x * l) % 4 = 0 := by unfold up4; omega
    generalize hn : x * l = n at *
    have e2 : wrap64 (x * l) = n := by rw [hn]; exact e1
    generalize up4 n = u at *
    have HN := Lib.hid hn
    clear hn hR
    rcases h2 with rfl | rfl
    all_goals
      go_enter Try.func53, Try.ntmps53
      go_wp2_with fail
      go_loopw [3] (fun v wr => ∃ m : Int, v = .int .i64 m ∧ n ≤ m ∧ m ≤ u ∧ Below w.heap.size w wr) (fun v _ => (u - intOf v).toNat)
      case atStart => exact ⟨n, by have h := HN.out; (try rw [← h]); (try simp), by omega, by omega, bnew _ _⟩
      case round =>
        obtain ⟨m, rfl, hm1, hm2, hK⟩ := hrel
        have HK := Lib.hid hK
        have htm : m.tmod 4 = m % 4 := Int.tmod_eq_emod_of_nonneg (by omega)
        clear hK
        by_cases h4m : m % 4 = 0
        · have q : (m.tmod 4 != 0) = false := by rw [bne_eq_false_iff_eq, htm]; exact h4m
          have hmu : m = u := by omega
          clear htm h4m
          go_wp2_with fail
          go_ret
          exact ⟨ret_int hmu, HK.out⟩
        · have q : (m.tmod 4 != 0) = true := by rw [bne_iff_ne, htm]; exact h4m
          have hlt : m < u := by omega
          clear htm h4m
          go_wp2_with fail
          go_roundw
          case rel => exact ⟨m + 1, by go_num, by omega, by omega, HK.out⟩
          case measure => simp [intOf]; omega
  · have hR : room ⟨x, l, k, o⟩ = 0 := by unfold room; rw [if_neg hs]
    rw [hR]
    unfold shapedP at hs
    simp only at hs
    clear hR
    by_cases h1 : x = 1 ∨ x = 4
    · have hl : l < 1 ∨ (1 ≤ l ∧ 16384 < l) := by omega
      clear hs
      rcases h1 with rfl | rfl
      all_goals
        rcases hl with hl | ⟨hl, hl2⟩
        all_goals
          go_enter Try.func53, Try.ntmps53
          go_wp2_with fail
          go_ret
          exact ⟨rfl, bnew _ _⟩
    · have q1 : (x != 1) = true := by rw [bne_iff_ne]; omega
      have q4 : (x != 4) = true := by rw [bne_iff_ne]; omega
      clear hs h1
      go_enter Try.func53, Try.ntmps53
      go_wp2_with fail
      go_ret
      exact ⟨rfl, bnew _ _⟩
end Go.Proofs.Ythkobddggoojlaa
