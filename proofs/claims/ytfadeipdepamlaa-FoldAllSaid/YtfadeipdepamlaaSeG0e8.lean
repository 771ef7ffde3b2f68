/- Parts of a proof. No condition but those that each theorem names. -/
import Derived.WalkKit
import Derived.OpenShut
import Derived.Below
import Derived.Lib.Hide
import Derived.Laws.OwnMore
import Derived.Deep.QuietTactic
import Derived.Deep.AppendLies
import Derived.ProofKit
import Derived.SizedLaws
import Derived.Test.YtfadeipdepamlaaProg
import Derived.BigQuiet
import Derived.Test.YtfadeipdepamlaaSeG0e2
import Derived.Test.YtfadeipdepamlaaSeG0e3
import Derived.Test.YtfadeipdepamlaaSeG0e7
namespace Go.Proofs.Ytfadeipdepamlaa
open Go.RowKit
set_option linter.unusedVariables false
/-- What an operation makes of words. -/
def valP (o : Opn) (a b c : Int) : Option Nat :=
  if o.kind = 1 then some (wd o.imm) else if o.kind = 2 then some (wd a) else if o.kind = 3 then some (wAdd a b) else if o.kind = 4 then some (wSub a b) else if o.kind = 5 then some (wMul a b)
  else if o.kind = 6 then some (wHigh a b) else if o.kind = 7 then some (wAnd a b) else if o.kind = 8 then some (wOr a b) else if o.kind = 9 then some (wXor a b) else if o.kind = 10 then some (wNot a)
  else if o.kind = 11 then some (wShl a o.imm) else if o.kind = 12 then some (wShr a o.imm) else if o.kind = 13 then some (wRor a o.imm) else if o.kind = 14 then some (wLess a b) else if o.kind = 15 then some (wSame a b)
  else if o.kind = 16 then some (wCarry a b) else if o.kind = 17 then some (wSelect c a b) else none
structure St where
  ts : List Int
  mem : List (List Int)
def rdT (ts : List Int) (t : Int) : Int := ts.getD t.toNat 0
def srcP (ts : List Int) (o : Opn) (j : Nat) (t : Int) : Int := if j < fSrc o.kind then rdT ts t else 0
def pureP (ts : List Int) (o : Opn) : Option Nat := valP o (srcP ts o 0 o.a) (srcP ts o 1 o.b) (srcP ts o 2 o.c)
def stepP (p : Ir) (s : St) (o : Opn) : Option St :=
  match pureP s.ts o with
  | some v => some ⟨s.ts.set o.dst.toNat (v : Int), s.mem⟩
  | none =>
    if ((s.mem.getD o.imm.toNat []).length : Int) ≤ srcP s.ts o 0 o.a then none
    else if o.kind = 18 then some ⟨s.ts.set o.dst.toNat ((s.mem.getD o.imm.toNat []).getD (srcP s.ts o 0 o.a).toNat 0), s.mem⟩
    else some ⟨s.ts, s.mem.set o.imm.toNat ((s.mem.getD o.imm.toNat []).set (srcP s.ts o 0 o.a).toNat (if (p.arrays.getD o.imm.toNat arrNone).elem = 1 then srcP s.ts o 1 o.b % 256 else srcP s.ts o 1 o.b))⟩
def wordR (x : Int) : Prop := 0 ≤ x ∧ x < 4294967296
/-- A state that fits a program. -/
structure Fit (p : Ir) (s : St) : Prop where
  tl : s.ts.length = p.temps.toNat
  tw : ∀ x ∈ s.ts, wordR x
  ml : s.mem.length = p.arrays.length
  mlen : ∀ i, i < p.arrays.length → (s.mem.getD i []).length = (p.arrays.getD i arrNone).len.toNat
  mw : ∀ l ∈ s.mem, ∀ x ∈ l, wordR x
theorem rdT_word {ts : List Int} (h : ∀ x ∈ ts, wordR x) (t : Int) : wordR (rdT ts t) := by
  unfold rdT
  rcases Nat.lt_or_ge t.toNat ts.length with h1 | h1
  · exact h _ (getD_memI ts _ 0 h1)
  · rw [List.getD_eq_getElem?_getD, List.getElem?_eq_none h1]; unfold wordR; simp
theorem and_lt_w (a b : Nat) (h : a < 4294967296) : a &&& b < 4294967296 := Nat.lt_of_le_of_lt Nat.and_le_left h
theorem or_lt_w (a b : Nat) (h : a < 4294967296) (h' : b < 4294967296) : a ||| b < 4294967296 := Nat.or_lt_two_pow (n := 32) h h'
theorem xor_lt_w (a b : Nat) (h : a < 4294967296) (h' : b < 4294967296) : a ^^^ b < 4294967296 := Nat.xor_lt_two_pow (n := 32) h h'
theorem mask_lt (b : Bool) : wMask b < 4294967296 := by cases b <;> decide
theorem ror_lt (a n : Int) : wRor a n < 4294967296 := by
  have h := ror_nat (wd a) (sh n) (wd_lt a) (sh_lt n)
  unfold wRor
  rw [← h]
  exact or_lt_w _ _ (Nat.lt_of_le_of_lt (Nat.div_le_self _ _) (wd_lt a)) (Nat.mod_lt _ (by decide))
def LtW (x : Option Nat) : Prop := ∀ v, x = some v → v < 4294967296
theorem ltw_ite {c : Prop} [Decidable c] {x y : Option Nat} (h1 : LtW x) (h2 : LtW y) : LtW (if c then x else y) := by split <;> assumption
theorem ltw_some {n : Nat} (h : n < 4294967296) : LtW (some n) := by intro v e; injection e with e; omega
theorem ltw_none : LtW none := by intro v e; cases e
theorem high_lt (a b : Int) : wHigh a b < 4294967296 := by
  unfold wHigh
  rw [Nat.div_lt_iff_lt_mul (by decide)]
  exact Nat.mul_lt_mul'' (wd_lt a) (wd_lt b)
theorem valP_ltw (o : Opn) (a b c : Int) : LtW (valP o a b c) := by
  have ha := wd_lt a
  have hb := wd_lt b
  unfold valP
  refine ltw_ite (ltw_some (wd_lt _)) (ltw_ite (ltw_some ha) (ltw_ite (ltw_some (wd_lt _)) (ltw_ite (ltw_some (wd_lt _)) (ltw_ite (ltw_some (Nat.mod_lt _ (by decide))) ?_))))
  refine ltw_ite (ltw_some (high_lt _ _)) (ltw_ite (ltw_some (and_lt_w _ _ ha)) (ltw_ite (ltw_some (or_lt_w _ _ ha hb)) (ltw_ite (ltw_some (xor_lt_w _ _ ha hb)) (ltw_ite (ltw_some (by unfold wNot; omega)) ?_))))
  refine ltw_ite (ltw_some (Nat.mod_lt _ (by decide))) (ltw_ite (ltw_some (Nat.lt_of_le_of_lt (Nat.div_le_self _ _) ha)) (ltw_ite (ltw_some (ror_lt _ _)) (ltw_ite (ltw_some (mask_lt _)) (ltw_ite (ltw_some (mask_lt _)) ?_))))
  exact ltw_ite (ltw_some (by unfold wCarry; omega)) (ltw_ite (ltw_some (or_lt_w _ _ (and_lt_w _ _ ha) (and_lt_w _ _ hb))) ltw_none)
theorem valP_lt (o : Opn) (a b c : Int) (v : Nat) (h : valP o a b c = some v) : v < 4294967296 := valP_ltw o a b c v h
theorem valP_none {o : Opn} {a b c : Int} (h : valP o a b c = none) (hk : fOk o.kind = true) : o.kind = 18 ∨ o.kind = 19 := by
  unfold fOk at hk
  simp only [decide_eq_true_eq] at hk
  refine Decidable.byContradiction fun hn => ?_
  have e : o.kind = 1 ∨ o.kind = 2 ∨ o.kind = 3 ∨ o.kind = 4 ∨ o.kind = 5 ∨ o.kind = 6 ∨ o.kind = 7 ∨ o.kind = 8 ∨ o.kind = 9 ∨ o.kind = 10 ∨ o.kind = 11 ∨ o.kind = 12 ∨ o.kind = 13 ∨ o.kind = 14 ∨ o.kind = 15 ∨ o.kind = 16 ∨ o.kind = 17 := by omega
  clear hk hn
  unfold valP at h
  rcases e with e | e | e | e | e | e | e | e | e | e | e | e | e | e | e | e | e <;> simp [e] at h
theorem getD_set_self {T : Type} (l : List T) (i : Nat) (v d : T) (h : i < l.length) : (l.set i v).getD i d = v := by
  rw [List.getD_eq_getElem?_getD, List.getElem?_set_self h]; rfl
theorem getD_set_ne {T : Type} (l : List T) (i j : Nat) (v d : T) (h : i ≠ j) : (l.set i v).getD j d = l.getD j d := by
  rw [List.getD_eq_getElem?_getD, List.getD_eq_getElem?_getD, List.getElem?_set_ne h]
end Go.Proofs.Ytfadeipdepamlaa
