/- Parts of a proof. No condition but those that each theorem names. -/
import Derived.WalkKit
import Derived.OpenShut
import Derived.Below
import Derived.Lib.Hide
import Derived.Laws.OwnMore
import Derived.Deep.QuietTactic
import Derived.Deep.AppendLies
import Derived.ProofKit
import Derived.SizedLaws
import Derived.Test.YthkobddggoojlaaProg
import Derived.Handy
import Derived.Deep.RegionHeld3
import Derived.BigQuiet
import Derived.Maps.AppendAt
import Derived.Maps.RangeWalk
import Derived.Maps.OwnSet
import Derived.StillTailTactics
import Derived.Laws.CopyOwn
import Derived.Lib.BufferWrite
import Derived.OrdersHeld
import Derived.RegionTactic
import Derived.Deep.DeepCutAuto
import Derived.RangeFuncNested
import Derived.RangeFuncBound
import Derived.RangeFuncCalls
import Derived.RangeFuncLeaves
import Derived.OwnWalkIn
import Derived.TacticsInMore
import Derived.LoopNIn
import Derived.LoopIn
import Derived.Test.YthkobddggoojlaaTeG0e0
import Derived.Test.YthkobddggoojlaaTeG0e1
import Derived.Test.YthkobddggoojlaaTeG0e2
import Derived.Test.YthkobddggoojlaaTeG1e18
import Derived.Test.YthkobddggoojlaaTeG1e17
import Derived.Test.YthkobddggoojlaaTeG1e20
namespace Go.Proofs.Ythkobddggoojlaa
open Go Go.RowKit
set_option linter.unusedVariables false
attribute [local go_sem] Oper.semAt_some
/-- The tidier and its flags can be read. -/
def TiRd (T G V cap N : Nat) (W : World) : Prop := TiBox W T G V cap N ∧ ∃ s : List Bool, s.length = N ∧ W.heap[V]? = some (.cells (bools s) 4 (0, 0))
def TiFl (V : Nat) (W : World) (k : Nat) (b : Bool) : Prop := ∃ s : List Bool, W.heap[V]? = some (.cells (bools s) 4 (0, 0)) ∧ k < s.length ∧ s.getD k false = b
theorem TiFl.kept {V : Nat} {B : Nat} {W W' : World} {k : Nat} {b : Bool} (h : TiFl V W k b) (hk : LoopKept B W W') : TiFl V W' k b := by
  obtain ⟨s, h1, h2⟩ := h
  exact ⟨s, hk.2 _ _ h1 rfl, h2⟩
theorem TiFl.back {V : Nat} {B : Nat} {W W' : World} {k : Nat} {b : Bool} (h : TiFl V W' k b) (hk : LoopKept B W W') (hr : ∃ s : List Bool, W.heap[V]? = some (.cells (bools s) 4 (0, 0))) : TiFl V W k b := by
  obtain ⟨s, h1, h2⟩ := h
  obtain ⟨s2, h3⟩ := hr
  have h4 := hk.2 _ _ h3 rfl
  exact ⟨s, by rw [h3, ← h4, h1], h2⟩
set_option maxRecDepth 100000 in
set_option maxHeartbeats 1000000 in
theorem tidy_there (n : Nat) (hn : 1 ≤ n) (T G V cap N : Nat) (hN : N ≤ 1048576) : ThereIn Fence.wide n Try.prog 35 #[.pointer (some ⟨T, 0, none⟩)] #[] N (TiRd T G V cap N) (TiFl V) := by
  intro l J W hR hS hY h0
  refine callsIn_of_wp Try.func35 rfl trivial ?_ rfl
  have HR := Lib.hid hR
  have HS := Lib.hid hS
  have HY := Lib.hid hY
  have HJ := Lib.hid h0
  have t0 := (hR 0 W h0).1.cells.1
  clear hR hS hY h0
  simp only [Try.ntmps35, List.size_toArray, List.length_cons, List.length_nil, Nat.reduceAdd, Nat.reduceSub, Array.replicate_succ, Array.replicate_zero, List.push_toArray, List.append_toArray, List.nil_append, List.cons_append]
  gi_wp2
  clear t0
  gi_loopw [10] (fun vi wr => ∃ k : Nat, k ≤ N ∧ vi = .int .i64 k ∧ J k wr) (fun vi _ => N - (intOf vi).toNat)
  case atStart => exact ⟨0, Nat.zero_le _, rfl, HJ.out⟩
  case round =>
    obtain ⟨k, hk, rfl, hj⟩ := hrel
    have HJ2 := Lib.hid hj
    obtain ⟨hT, s, hs, hV⟩ := HR.out k wr hj
    by_cases hkl : k < N
    · have t1 := hT.cells.2
      have t0 := hT.cells.1
      have k0 : (0 : Int) ≤ (k : Int) := by omega
      have k1 : (k : Int) < (N : Int) := by omega
      have z0 := (cell_of_blk hV k).1
      rw [bools_at (show k < s.length by omega)] at z0
      cases hf : s.getD k false with
      | true =>
        rw [hf] at z0
        have HN := Lib.hid (HS.out k wr hj hkl ⟨s, hV, by omega, hf⟩)
        clear hf hV hj hT hs
        gi_wp2
        refine ⟨fun _ h => (by cases h), ?_⟩
        gi_wp2
        exact ⟨⟨k + 1, by omega, by go_num, HN.out⟩, by simp [intOf]; omega⟩
      | false =>
        rw [hf] at z0
        obtain ⟨fn, tmps, assign, body, hy, hRd⟩ := HY.out k wr hj hkl ⟨s, hV, by omega, hf⟩
        clear hf hV hj hT hs
        gi_wp2
        refine hRd.mono ?_
        rintro e W3 ⟨rfl, hJ3⟩
        have HN := Lib.hid hJ3
        clear hJ3
        gi_wp2
        exact ⟨⟨k + 1, by omega, by go_num, HN.out⟩, by simp [intOf]; omega⟩
    · obtain rfl : k = N := by omega
      gi_wp2
      go_end0
      exact ⟨⟨_, rfl⟩, HJ2.out⟩
end Go.Proofs.Ythkobddggoojlaa
