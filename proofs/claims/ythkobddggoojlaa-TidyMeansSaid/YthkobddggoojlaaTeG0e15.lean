/- Parts of a proof, joined. No condition but those that each theorem names. -/
import Derived.WalkKit
import Derived.OpenShut
import Derived.Below
import Derived.Lib.Hide
import Derived.Laws.OwnMore
import Derived.Deep.QuietTactic
import Derived.Deep.AppendLies
import Derived.ProofKit
import Derived.SizedLaws
import Derived.Test.YthkobddggoojlaaProg
import Derived.Handy
import Derived.Deep.RegionHeld3
import Derived.BigQuiet
import Derived.Maps.AppendAt
import Derived.StillTailTactics
import Derived.Laws.CopyOwn
import Derived.Lib.BufferWrite
import Derived.OrdersHeld
import Derived.RegionTactic
import Derived.Test.YthkobddggoojlaaTeG0e2
import Derived.Test.YthkobddggoojlaaTeG0e10
import Derived.Test.YthkobddggoojlaaTeG0e0
import Derived.Test.YthkobddggoojlaaTeG0e1
import Derived.Test.YthkobddggoojlaaTeG0e4
import Derived.Test.YthkobddggoojlaaTeG0e14
namespace Go.Proofs.Ythkobddggoojlaa
open Go.RowKit
set_option linter.unusedVariables false
def turnT (p : Ir) (there : Bool) (t : Int) : Int := if there = true then p.temps - 1 - t else 0
def turnOp (p : Ir) (o : Opn) : Opn := ⟨o.kind, turnT p (fDst o.kind) o.dst, turnT p (decide (0 < fSrc o.kind)) o.a, turnT p (decide (1 < fSrc o.kind)) o.b, turnT p (decide (2 < fSrc o.kind)) o.c, o.imm⟩
end Go.Proofs.Ythkobddggoojlaa
namespace Go.Proofs.Ythkobddggoojlaa
open Go.RowKit
set_option linter.unusedVariables false
structure TR (T : Int) (a b : List Int) : Prop where
  la : a.length = T.toNat
  lb : T.toNat ≤ b.length
  at_ : ∀ i : Nat, i < T.toNat → b.getD (T.toNat - 1 - i) 0 = a.getD i 0
theorem TR.rd {T : Int} {a b : List Int} (h : TR T a b) (t : Int) (h0 : 0 ≤ t) (h1 : t < T) : rdT b (T - 1 - t) = rdT a t := by
  unfold rdT
  rw [show (T - 1 - t).toNat = T.toNat - 1 - t.toNat by omega]
  exact h.at_ t.toNat (by omega)
theorem TR.set {T : Int} {a b : List Int} (h : TR T a b) (t : Int) (h0 : 0 ≤ t) (h1 : t < T) (v : Int) : TR T (a.set t.toNat v) (b.set (T - 1 - t).toNat v) := by
  have hla := h.la
  have hlb := h.lb
  refine ⟨by simpa using hla, by simpa using hlb, fun i hi => ?_⟩
  by_cases e : i = t.toNat
  · subst e
    rw [show T.toNat - 1 - t.toNat = (T - 1 - t).toNat by omega, getD_set_self _ _ _ _ (by omega), getD_set_self _ _ _ _ (by omega)]
  · rw [getD_set_ne _ _ _ _ _ (by omega), getD_set_ne _ _ _ _ _ (fun h => e h.symm)]
    exact h.at_ i hi
theorem TR.src {p : Ir} {a b : List Int} (h : TR p.temps a b) (o : Opn) (j : Nat) (t : Int) (ht : fieldP p (decide (j < fSrc o.kind)) t) : srcP b (turnOp p o) j (turnT p (decide (j < fSrc o.kind)) t) = srcP a o j t := by
  unfold srcP
  show (if j < fSrc o.kind then _ else _) = _
  by_cases hj : j < fSrc o.kind
  · rw [if_pos hj, if_pos hj]
    rw [decide_eq_true hj] at ht ⊢
    unfold turnT
    rw [if_pos rfl]
    exact h.rd t ht.1 ht.2
  · rw [if_neg hj, if_neg hj]
end Go.Proofs.Ythkobddggoojlaa
namespace Go.Proofs.Ythkobddggoojlaa
open Go.RowKit
set_option linter.unusedVariables false
set_option maxHeartbeats 8000000 in
set_option maxRecDepth 100000 in
theorem ref_op_bad0 (p : Ir) (AA : Option Addr) (ac : Nat) (bv : Value) (k d a b c i : Int) (L : ByteArray) (fd s1 s2 s3 : Bool) (hL : L = ⟨#[]⟩) (Lsz : L.size ≤ 1000000)  (hLT : ∀ W, Calls Try.prog 54 #[.int .i64 k] W fun e w' => e = .returned (.string L) ∧ Below W.heap.size W w') (w : World) :
    Calls Try.prog 39 #[.agg #[.int .i64 p.temps, .slice AA p.arrays.length ac, bv, .int .i64 p.inp, .int .i64 p.out], .agg #[.int .i64 k, .int .i64 d, .int .i64 a, .int .i64 b, .int .i64 c, .int .i64 i]] w fun e w' => e = .returned (.bool false) ∧ Below w.heap.size w w' := by
  have HLT := Lib.hid hLT
  subst hL
  clear hLT Lsz
  go_enter Try.func39, Try.ntmps39
  go_wp2_with fail
  refine (HLT.out _).mono ?_
  rintro e w2 ⟨rfl, hb⟩
  have hxp := (hb.block w.heap.size (by first | (simp; done) | (simp; omega))).trans (((bnew (w.alloc (.cells #[.int .i64 p.temps, .slice AA p.arrays.length ac, bv, .int .i64 p.inp, .int .i64 p.out] 25)) _).block w.heap.size (by simp)).trans (heap_alloc_new w _))
  have hxo := (hb.block (w.heap.size + 1) (by simp)).trans (alloc_new2 w _ _)
  have HXP := Lib.hid hxp
  have HXO := Lib.hid hxo
  have HBW := Lib.hid (bch (bal (bnew _ _) _) hb)
  clear hb hxp hxo
  go_wp2_with fail
  refine wp_region_L (fun w' => Below w2.heap.size w2 w') 99 (by kernel_rfl) ?_
  have hS0 : Below w2.heap.size w2 w2.drew := Below.drew (Below.refl _ _)
  refine wpAnyL_take (i := 0) (some 9) (.string ⟨#[]⟩) rfl rfl (by kernel_rfl) (by kernel_rfl) (by kernel_rfl) (by kernel_rfl) (fun _ _ _ h => h) (by rfl) ?hvx1_0 hS0 ?restx1_0
  case hvx1_0 =>
    intro wz hSz
    go_simp
  try simp only [Act.put, List.setIfInBounds_toArray, List.set_cons_zero, List.set_cons_succ]
  refine wpAnyL_take (i := 1) (some 10) (.bool true) rfl rfl (by kernel_rfl) (by kernel_rfl) (by kernel_rfl) (by kernel_rfl) (fun _ _ _ h => h) (by rfl) ?hvx1_1 hS0 ?restx1_1
  case hvx1_1 =>
    intro wz hSz
    go_simp
  try simp only [Act.put, List.setIfInBounds_toArray, List.set_cons_zero, List.set_cons_succ]
  refine wpAnyL_take (i := 2) (some 11) (.bool true) rfl rfl (by kernel_rfl) (by kernel_rfl) (by kernel_rfl) (by kernel_rfl) (fun _ _ _ h => h) (by rfl) ?hvx1_2 hS0 ?restx1_2
  case hvx1_2 =>
    intro wz hSz
    go_simp
  try simp only [Act.put, List.setIfInBounds_toArray, List.set_cons_zero, List.set_cons_succ]
  refine wpAnyL_skip (i := 3) (some 12) rfl rfl (by kernel_rfl) (by kernel_rfl) (by kernel_rfl) (by kernel_rfl) (fun _ _ _ h => h) (by rfl) hS0 ?restx1_3
  try simp only [Act.put, List.setIfInBounds_toArray, List.set_cons_zero, List.set_cons_succ]
  refine wpAnyL_skip (i := 4) (some 13) rfl rfl (by kernel_rfl) (by kernel_rfl) (by kernel_rfl) (by kernel_rfl) (fun _ _ _ h => h) (by rfl) hS0 ?restx1_4
  try simp only [Act.put, List.setIfInBounds_toArray, List.set_cons_zero, List.set_cons_succ]
  refine wpAnyL_skip (i := 6) (some 15) rfl rfl (by kernel_rfl) (by kernel_rfl) (by kernel_rfl) (by kernel_rfl) (fun _ _ _ h => h) (by rfl) hS0 ?restx1_6
  try simp only [Act.put, List.setIfInBounds_toArray, List.set_cons_zero, List.set_cons_succ]
  refine wpAnyL_skip (i := 7) (some 16) rfl rfl (by kernel_rfl) (by kernel_rfl) (by kernel_rfl) (by kernel_rfl) (fun _ _ _ h => h) (by rfl) hS0 ?restx1_7
  try simp only [Act.put, List.setIfInBounds_toArray, List.set_cons_zero, List.set_cons_succ]
  refine wpAnyL_skip (i := 5) (some 14) rfl rfl (by kernel_rfl) (by kernel_rfl) (by kernel_rfl) (by kernel_rfl) (fun _ _ _ h => h) (by rfl) hS0 ?restx1_5
  try simp only [Act.put, List.setIfInBounds_toArray, List.set_cons_zero, List.set_cons_succ]
  refine wpAnyL_skip (i := 8) (some 17) rfl rfl (by kernel_rfl) (by kernel_rfl) (by kernel_rfl) (by kernel_rfl) (fun _ _ _ h => h) (by rfl) hS0 ?restx1_8
  try simp only [Act.put, List.setIfInBounds_toArray, List.set_cons_zero, List.set_cons_succ]
  refine wpAnyL_skip (i := 9) (some 18) rfl rfl (by kernel_rfl) (by kernel_rfl) (by kernel_rfl) (by kernel_rfl) (fun _ _ _ h => h) (by rfl) hS0 ?restx1_9
  try simp only [Act.put, List.setIfInBounds_toArray, List.set_cons_zero, List.set_cons_succ]
  refine wpAnyL_take (i := 10) (some 19) (.bool true) rfl rfl (by kernel_rfl) (by kernel_rfl) (by kernel_rfl) (by kernel_rfl) (fun _ _ _ h => h) (by rfl) ?hvx1_10 hS0 ?restx1_10
  case hvx1_10 =>
    intro wz hSz
    go_simp
  try simp only [Act.put, List.setIfInBounds_toArray, List.set_cons_zero, List.set_cons_succ]
  refine wpAnyL_take (i := 11) (some 20) (.bool true) rfl rfl (by kernel_rfl) (by kernel_rfl) (by kernel_rfl) (by kernel_rfl) (fun _ _ _ h => h) (by rfl) ?hvx1_11 hS0 ?restx1_11
  case hvx1_11 =>
    intro wz hSz
    go_simp
  try simp only [Act.put, List.setIfInBounds_toArray, List.set_cons_zero, List.set_cons_succ]
  refine wpAnyL_skip (i := 12) (some 21) rfl rfl (by kernel_rfl) (by kernel_rfl) (by kernel_rfl) (by kernel_rfl) (fun _ _ _ h => h) (by rfl) hS0 ?restx1_12
  try simp only [Act.put, List.setIfInBounds_toArray, List.set_cons_zero, List.set_cons_succ]
  refine wpAnyL_skip (i := 13) (some 22) rfl rfl (by kernel_rfl) (by kernel_rfl) (by kernel_rfl) (by kernel_rfl) (fun _ _ _ h => h) (by rfl) hS0 ?restx1_13
  try simp only [Act.put, List.setIfInBounds_toArray, List.set_cons_zero, List.set_cons_succ]
  refine wpAnyL_skip (i := 15) (some 24) rfl rfl (by kernel_rfl) (by kernel_rfl) (by kernel_rfl) (by kernel_rfl) (fun _ _ _ h => h) (by rfl) hS0 ?restx1_15
  try simp only [Act.put, List.setIfInBounds_toArray, List.set_cons_zero, List.set_cons_succ]
  refine wpAnyL_skip (i := 16) (some 25) rfl rfl (by kernel_rfl) (by kernel_rfl) (by kernel_rfl) (by kernel_rfl) (fun _ _ _ h => h) (by rfl) hS0 ?restx1_16
  try simp only [Act.put, List.setIfInBounds_toArray, List.set_cons_zero, List.set_cons_succ]
  refine wpAnyL_skip (i := 14) (some 23) rfl rfl (by kernel_rfl) (by kernel_rfl) (by kernel_rfl) (by kernel_rfl) (fun _ _ _ h => h) (by rfl) hS0 ?restx1_14
  try simp only [Act.put, List.setIfInBounds_toArray, List.set_cons_zero, List.set_cons_succ]
  refine wpAnyL_skip (i := 17) (some 26) rfl rfl (by kernel_rfl) (by kernel_rfl) (by kernel_rfl) (by kernel_rfl) (fun _ _ _ h => h) (by rfl) hS0 ?restx1_17
  try simp only [Act.put, List.setIfInBounds_toArray, List.set_cons_zero, List.set_cons_succ]
  refine wpAnyL_skip (i := 18) (some 27) rfl rfl (by kernel_rfl) (by kernel_rfl) (by kernel_rfl) (by kernel_rfl) (fun _ _ _ h => h) (by rfl) hS0 ?restx1_18
  try simp only [Act.put, List.setIfInBounds_toArray, List.set_cons_zero, List.set_cons_succ]
  refine wpAnyL_take (i := 19) (some 28) (.bool true) rfl rfl (by kernel_rfl) (by kernel_rfl) (by kernel_rfl) (by kernel_rfl) (fun _ _ _ h => h) (by rfl) ?hvx1_19 hS0 ?restx1_19
  case hvx1_19 =>
    intro wz hSz
    go_simp
  try simp only [Act.put, List.setIfInBounds_toArray, List.set_cons_zero, List.set_cons_succ]
  refine wpAnyL_take (i := 20) (some 29) (.bool true) rfl rfl (by kernel_rfl) (by kernel_rfl) (by kernel_rfl) (by kernel_rfl) (fun _ _ _ h => h) (by rfl) ?hvx1_20 hS0 ?restx1_20
  case hvx1_20 =>
    intro wz hSz
    go_simp
  try simp only [Act.put, List.setIfInBounds_toArray, List.set_cons_zero, List.set_cons_succ]
  refine wpAnyL_skip (i := 21) (some 30) rfl rfl (by kernel_rfl) (by kernel_rfl) (by kernel_rfl) (by kernel_rfl) (fun _ _ _ h => h) (by rfl) hS0 ?restx1_21
  try simp only [Act.put, List.setIfInBounds_toArray, List.set_cons_zero, List.set_cons_succ]
  refine wpAnyL_skip (i := 22) (some 31) rfl rfl (by kernel_rfl) (by kernel_rfl) (by kernel_rfl) (by kernel_rfl) (fun _ _ _ h => h) (by rfl) hS0 ?restx1_22
  try simp only [Act.put, List.setIfInBounds_toArray, List.set_cons_zero, List.set_cons_succ]
  refine wpAnyL_skip (i := 24) (some 33) rfl rfl (by kernel_rfl) (by kernel_rfl) (by kernel_rfl) (by kernel_rfl) (fun _ _ _ h => h) (by rfl) hS0 ?restx1_24
  try simp only [Act.put, List.setIfInBounds_toArray, List.set_cons_zero, List.set_cons_succ]
  refine wpAnyL_skip (i := 25) (some 34) rfl rfl (by kernel_rfl) (by kernel_rfl) (by kernel_rfl) (by kernel_rfl) (fun _ _ _ h => h) (by rfl) hS0 ?restx1_25
  try simp only [Act.put, List.setIfInBounds_toArray, List.set_cons_zero, List.set_cons_succ]
  refine wpAnyL_skip (i := 23) (some 32) rfl rfl (by kernel_rfl) (by kernel_rfl) (by kernel_rfl) (by kernel_rfl) (fun _ _ _ h => h) (by rfl) hS0 ?restx1_23
  try simp only [Act.put, List.setIfInBounds_toArray, List.set_cons_zero, List.set_cons_succ]
  refine wpAnyL_skip (i := 26) (some 35) rfl rfl (by kernel_rfl) (by kernel_rfl) (by kernel_rfl) (by kernel_rfl) (fun _ _ _ h => h) (by rfl) hS0 ?restx1_26
  try simp only [Act.put, List.setIfInBounds_toArray, List.set_cons_zero, List.set_cons_succ]
  refine wpAnyL_skip (i := 27) (some 36) rfl rfl (by kernel_rfl) (by kernel_rfl) (by kernel_rfl) (by kernel_rfl) (fun _ _ _ h => h) (by rfl) hS0 ?restx1_27
  try simp only [Act.put, List.setIfInBounds_toArray, List.set_cons_zero, List.set_cons_succ]
  refine wpAnyL_take (i := 28) (some 37) (.bool true) rfl rfl (by kernel_rfl) (by kernel_rfl) (by kernel_rfl) (by kernel_rfl) (fun _ _ _ h => h) (by rfl) ?hvx1_28 hS0 ?restx1_28
  case hvx1_28 =>
    intro wz hSz
    go_simp
  try simp only [Act.put, List.setIfInBounds_toArray, List.set_cons_zero, List.set_cons_succ]
  refine wpAnyL_take (i := 29) (some 38) (.bool true) rfl rfl (by kernel_rfl) (by kernel_rfl) (by kernel_rfl) (by kernel_rfl) (fun _ _ _ h => h) (by rfl) ?hvx1_29 hS0 ?restx1_29
  case hvx1_29 =>
    intro wz hSz
    go_simp
  try simp only [Act.put, List.setIfInBounds_toArray, List.set_cons_zero, List.set_cons_succ]
  refine wpAnyL_skip (i := 30) (some 39) rfl rfl (by kernel_rfl) (by kernel_rfl) (by kernel_rfl) (by kernel_rfl) (fun _ _ _ h => h) (by rfl) hS0 ?restx1_30
  try simp only [Act.put, List.setIfInBounds_toArray, List.set_cons_zero, List.set_cons_succ]
  refine wpAnyL_skip (i := 31) (some 40) rfl rfl (by kernel_rfl) (by kernel_rfl) (by kernel_rfl) (by kernel_rfl) (fun _ _ _ h => h) (by rfl) hS0 ?restx1_31
  try simp only [Act.put, List.setIfInBounds_toArray, List.set_cons_zero, List.set_cons_succ]
  refine wpAnyL_skip (i := 33) (some 42) rfl rfl (by kernel_rfl) (by kernel_rfl) (by kernel_rfl) (by kernel_rfl) (fun _ _ _ h => h) (by rfl) hS0 ?restx1_33
  try simp only [Act.put, List.setIfInBounds_toArray, List.set_cons_zero, List.set_cons_succ]
  refine wpAnyL_skip (i := 34) (some 43) rfl rfl (by kernel_rfl) (by kernel_rfl) (by kernel_rfl) (by kernel_rfl) (fun _ _ _ h => h) (by rfl) hS0 ?restx1_34
  try simp only [Act.put, List.setIfInBounds_toArray, List.set_cons_zero, List.set_cons_succ]
  refine wpAnyL_skip (i := 32) (some 41) rfl rfl (by kernel_rfl) (by kernel_rfl) (by kernel_rfl) (by kernel_rfl) (fun _ _ _ h => h) (by rfl) hS0 ?restx1_32
  try simp only [Act.put, List.setIfInBounds_toArray, List.set_cons_zero, List.set_cons_succ]
  refine wpAnyL_skip (i := 35) (some 44) rfl rfl (by kernel_rfl) (by kernel_rfl) (by kernel_rfl) (by kernel_rfl) (fun _ _ _ h => h) (by rfl) hS0 ?restx1_35
  try simp only [Act.put, List.setIfInBounds_toArray, List.set_cons_zero, List.set_cons_succ]
  refine wpAnyL_skip (i := 36) (some 45) rfl rfl (by kernel_rfl) (by kernel_rfl) (by kernel_rfl) (by kernel_rfl) (fun _ _ _ h => h) (by rfl) hS0 ?restx1_36
  try simp only [Act.put, List.setIfInBounds_toArray, List.set_cons_zero, List.set_cons_succ]
  refine wpAnyL_take (i := 37) (some 46) (.bool true) rfl rfl (by kernel_rfl) (by kernel_rfl) (by kernel_rfl) (by kernel_rfl) (fun _ _ _ h => h) (by rfl) ?hvx1_37 hS0 ?restx1_37
  case hvx1_37 =>
    intro wz hSz
    go_simp
  try simp only [Act.put, List.setIfInBounds_toArray, List.set_cons_zero, List.set_cons_succ]
  refine wpAnyL_take (i := 38) (some 47) (.bool true) rfl rfl (by kernel_rfl) (by kernel_rfl) (by kernel_rfl) (by kernel_rfl) (fun _ _ _ h => h) (by rfl) ?hvx1_38 hS0 ?restx1_38
  case hvx1_38 =>
    intro wz hSz
    go_simp
  try simp only [Act.put, List.setIfInBounds_toArray, List.set_cons_zero, List.set_cons_succ]
  refine wpAnyL_skip (i := 39) (some 48) rfl rfl (by kernel_rfl) (by kernel_rfl) (by kernel_rfl) (by kernel_rfl) (fun _ _ _ h => h) (by rfl) hS0 ?restx1_39
  try simp only [Act.put, List.setIfInBounds_toArray, List.set_cons_zero, List.set_cons_succ]
  refine wpAnyL_skip (i := 40) (some 49) rfl rfl (by kernel_rfl) (by kernel_rfl) (by kernel_rfl) (by kernel_rfl) (fun _ _ _ h => h) (by rfl) hS0 ?restx1_40
  try simp only [Act.put, List.setIfInBounds_toArray, List.set_cons_zero, List.set_cons_succ]
  refine wpAnyL_skip (i := 41) (some 50) rfl rfl (by kernel_rfl) (by kernel_rfl) (by kernel_rfl) (by kernel_rfl) (fun _ _ _ h => h) (by rfl) hS0 ?restx1_41
  try simp only [Act.put, List.setIfInBounds_toArray, List.set_cons_zero, List.set_cons_succ]
  refine wpAnyL_take (i := 42) (some 51) (.bool true) rfl rfl (by kernel_rfl) (by kernel_rfl) (by kernel_rfl) (by kernel_rfl) (fun _ _ _ h => h) (by rfl) ?hvx1_42 hS0 ?restx1_42
  case hvx1_42 =>
    intro wz hSz
    go_simp
  try simp only [Act.put, List.setIfInBounds_toArray, List.set_cons_zero, List.set_cons_succ]
  refine wpAnyL_done (by kernel_rfl) ?_ _
  go_wp2_with fail
  go_ret
  exact ⟨rfl, bch HBW.out hS0⟩
end Go.Proofs.Ythkobddggoojlaa
