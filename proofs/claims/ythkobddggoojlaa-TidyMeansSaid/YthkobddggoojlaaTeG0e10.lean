/- Parts of a proof. No condition but those that each theorem names. -/
import Derived.WalkKit
import Derived.OpenShut
import Derived.Below
import Derived.Lib.Hide
import Derived.Laws.OwnMore
import Derived.Deep.QuietTactic
import Derived.Deep.AppendLies
import Derived.ProofKit
import Derived.SizedLaws
import Derived.Test.YthkobddggoojlaaProg
import Derived.BigQuiet
import Derived.Test.YthkobddggoojlaaTeG0e2
import Derived.Test.YthkobddggoojlaaTeG0e3
import Derived.Test.YthkobddggoojlaaTeG0e8
import Derived.Test.YthkobddggoojlaaTeG0e9
namespace Go.Proofs.Ythkobddggoojlaa
open Go.RowKit
set_option linter.unusedVariables false
/-- What an operation makes of words. -/
def valP (o : Opn) (a b c : Int) : Option Nat :=
  if o.kind = 1 then some (wd o.imm) else if o.kind = 2 then some (wd a) else if o.kind = 3 then some (wAdd a b) else if o.kind = 4 then some (wSub a b) else if o.kind = 5 then some (wMul a b)
  else if o.kind = 6 then some (wHigh a b) else if o.kind = 7 then some (wAnd a b) else if o.kind = 8 then some (wOr a b) else if o.kind = 9 then some (wXor a b) else if o.kind = 10 then some (wNot a)
  else if o.kind = 11 then some (wShl a o.imm) else if o.kind = 12 then some (wShr a o.imm) else if o.kind = 13 then some (wRor a o.imm) else if o.kind = 14 then some (wLess a b) else if o.kind = 15 then some (wSame a b)
  else if o.kind = 16 then some (wCarry a b) else if o.kind = 17 then some (wSelect c a b) else none
structure St where
  ts : List Int
  mem : List (List Int)
def rdT (ts : List Int) (t : Int) : Int := ts.getD t.toNat 0
def srcP (ts : List Int) (o : Opn) (j : Nat) (t : Int) : Int := if j < fSrc o.kind then rdT ts t else 0
def pureP (ts : List Int) (o : Opn) : Option Nat := valP o (srcP ts o 0 o.a) (srcP ts o 1 o.b) (srcP ts o 2 o.c)
def stepP (p : Ir) (s : St) (o : Opn) : Option St :=
  match pureP s.ts o with
  | some v => some ⟨s.ts.set o.dst.toNat (v : Int), s.mem⟩
  | none =>
    if ((s.mem.getD o.imm.toNat []).length : Int) ≤ srcP s.ts o 0 o.a then none
    else if o.kind = 18 then some ⟨s.ts.set o.dst.toNat ((s.mem.getD o.imm.toNat []).getD (srcP s.ts o 0 o.a).toNat 0), s.mem⟩
    else some ⟨s.ts, s.mem.set o.imm.toNat ((s.mem.getD o.imm.toNat []).set (srcP s.ts o 0 o.a).toNat (if (p.arrays.getD o.imm.toNat arrNone).elem = 1 then srcP s.ts o 1 o.b % 256 else srcP s.ts o 1 o.b))⟩
def nextP (ts : List Int) (t : Trm) : Int := if t.kind = 1 then t.yes else if rdT ts t.a = 4294967295 then t.yes else if rdT ts t.a = 0 then t.no else -1
/-- An input's word, or byte. -/
def inAt (input : ByteArray) (a : Arr) (i : Nat) : Int :=
  if a.elem = 4 then ((le4 (input.data.toList.getD (a.off.toNat + 4 * i) 0) (input.data.toList.getD (a.off.toNat + 4 * i + 1) 0) (input.data.toList.getD (a.off.toNat + 4 * i + 2) 0) (input.data.toList.getD (a.off.toNat + 4 * i + 3) 0) : Nat) : Int)
  else ((input.data.toList.getD (a.off.toNat + i) 0).toNat : Int)
def arrStart (input : ByteArray) (a : Arr) : List Int := if a.kind = 1 then (List.range a.len.toNat).map (inAt input a) else List.replicate a.len.toNat 0
def startP (p : Ir) (input : ByteArray) : St := ⟨List.replicate p.temps.toNat 0, p.arrays.map (arrStart input)⟩
/-- Bytes laid over others, from one on. -/
def lay (b : List UInt8) (at_ : Nat) (x : List UInt8) : List UInt8 := b.take at_ ++ (x ++ b.drop (at_ + x.length))
def outElem (a : Arr) (b : List UInt8) (i : Nat) (v : Int) : List UInt8 := lay b (a.off.toNat + i * a.elem.toNat) ((wBytes v).data.toList.take a.elem.toNat)
def outArr (a : Arr) (l : List Int) (b : List UInt8) : List UInt8 := if a.kind = 2 then (List.range l.length).foldl (fun b i => outElem a b i (l.getD i 0)) b else b
def outGo (p : Ir) (s : St) (k : Nat) : List UInt8 := (List.range k).foldl (fun b i => outArr (p.arrays.getD i arrNone) (s.mem.getD i []) b) (List.replicate p.out.toNat 0)
def outP (p : Ir) (s : St) : ByteArray := ⟨(outGo p s p.arrays.length).toArray⟩
def bE : ByteArray := ⟨#[]⟩
/-- One step of a run, at an operation or at an end. -/
def mStep (p : Ir) (at_ : Int) (k : Nat) (s : St) : (ByteArray × Int) ⊕ (Int × Nat × St) :=
  if k < (p.blocks.getD at_.toNat blkNone).ops.length then
    match stepP p s ((p.blocks.getD at_.toNat blkNone).ops.getD k opNone) with
    | none => .inl (bE, 19)
    | some s' => .inr (at_, k + 1, s')
  else if (p.blocks.getD at_.toNat blkNone).term.kind = 3 then .inl (outP p s, 0)
  else .inr (nextP s.ts (p.blocks.getD at_.toNat blkNone).term, 0, s)
def runP (p : Ir) : Nat → Int → Nat → St → ByteArray × Int
  | 0, at_, k, s => if at_ = -1 then (bE, 19) else (bE, 20)
  | n + 1, at_, k, s => if at_ = -1 then (bE, 19) else
    match mStep p at_ k s with
    | .inl r => r
    | .inr x => runP p n x.1 x.2.1 x.2.2
def irRun (p : Ir) (input : ByteArray) (budget : Int) : ByteArray × Int :=
  if irErr p ≠ 0 then (bE, irErr p) else if (input.size : Int) ≠ p.inp ∨ ¬ (0 ≤ budget ∧ budget ≤ 67108864) then (bE, 2) else runP p budget.toNat 0 0 (startP p input)
def wordR (x : Int) : Prop := 0 ≤ x ∧ x < 4294967296
/-- A state that fits a program. -/
structure Fit (p : Ir) (s : St) : Prop where
  tl : s.ts.length = p.temps.toNat
  tw : ∀ x ∈ s.ts, wordR x
  ml : s.mem.length = p.arrays.length
  mlen : ∀ i, i < p.arrays.length → (s.mem.getD i []).length = (p.arrays.getD i arrNone).len.toNat
  mw : ∀ l ∈ s.mem, ∀ x ∈ l, wordR x
theorem rdT_word {ts : List Int} (h : ∀ x ∈ ts, wordR x) (t : Int) : wordR (rdT ts t) := by
  unfold rdT
  rcases Nat.lt_or_ge t.toNat ts.length with h1 | h1
  · exact h _ (getD_memI ts _ 0 h1)
  · rw [List.getD_eq_getElem?_getD, List.getElem?_eq_none h1]; unfold wordR; simp
theorem srcP_word {ts : List Int} (h : ∀ x ∈ ts, wordR x) (o : Opn) (j : Nat) (t : Int) : wordR (srcP ts o j t) := by
  unfold srcP
  split
  · exact rdT_word h t
  · unfold wordR; omega
theorem and_lt_w (a b : Nat) (h : a < 4294967296) : a &&& b < 4294967296 := Nat.lt_of_le_of_lt Nat.and_le_left h
theorem or_lt_w (a b : Nat) (h : a < 4294967296) (h' : b < 4294967296) : a ||| b < 4294967296 := Nat.or_lt_two_pow (n := 32) h h'
theorem xor_lt_w (a b : Nat) (h : a < 4294967296) (h' : b < 4294967296) : a ^^^ b < 4294967296 := Nat.xor_lt_two_pow (n := 32) h h'
theorem mask_lt (b : Bool) : wMask b < 4294967296 := by cases b <;> decide
theorem ror_lt (a n : Int) : wRor a n < 4294967296 := by
  have h := ror_nat (wd a) (sh n) (wd_lt a) (sh_lt n)
  unfold wRor
  rw [← h]
  exact or_lt_w _ _ (Nat.lt_of_le_of_lt (Nat.div_le_self _ _) (wd_lt a)) (Nat.mod_lt _ (by decide))
def LtW (x : Option Nat) : Prop := ∀ v, x = some v → v < 4294967296
theorem ltw_ite {c : Prop} [Decidable c] {x y : Option Nat} (h1 : LtW x) (h2 : LtW y) : LtW (if c then x else y) := by split <;> assumption
theorem ltw_some {n : Nat} (h : n < 4294967296) : LtW (some n) := by intro v e; injection e with e; omega
theorem ltw_none : LtW none := by intro v e; cases e
theorem high_lt (a b : Int) : wHigh a b < 4294967296 := by
  unfold wHigh
  rw [Nat.div_lt_iff_lt_mul (by decide)]
  exact Nat.mul_lt_mul'' (wd_lt a) (wd_lt b)
theorem valP_ltw (o : Opn) (a b c : Int) : LtW (valP o a b c) := by
  have ha := wd_lt a
  have hb := wd_lt b
  unfold valP
  refine ltw_ite (ltw_some (wd_lt _)) (ltw_ite (ltw_some ha) (ltw_ite (ltw_some (wd_lt _)) (ltw_ite (ltw_some (wd_lt _)) (ltw_ite (ltw_some (Nat.mod_lt _ (by decide))) ?_))))
  refine ltw_ite (ltw_some (high_lt _ _)) (ltw_ite (ltw_some (and_lt_w _ _ ha)) (ltw_ite (ltw_some (or_lt_w _ _ ha hb)) (ltw_ite (ltw_some (xor_lt_w _ _ ha hb)) (ltw_ite (ltw_some (by unfold wNot; omega)) ?_))))
  refine ltw_ite (ltw_some (Nat.mod_lt _ (by decide))) (ltw_ite (ltw_some (Nat.lt_of_le_of_lt (Nat.div_le_self _ _) ha)) (ltw_ite (ltw_some (ror_lt _ _)) (ltw_ite (ltw_some (mask_lt _)) (ltw_ite (ltw_some (mask_lt _)) ?_))))
  exact ltw_ite (ltw_some (by unfold wCarry; omega)) (ltw_ite (ltw_some (or_lt_w _ _ (and_lt_w _ _ ha) (and_lt_w _ _ hb))) ltw_none)
theorem valP_lt (o : Opn) (a b c : Int) (v : Nat) (h : valP o a b c = some v) : v < 4294967296 := valP_ltw o a b c v h
theorem valP_none {o : Opn} {a b c : Int} (h : valP o a b c = none) (hk : fOk o.kind = true) : o.kind = 18 ∨ o.kind = 19 := by
  unfold fOk at hk
  simp only [decide_eq_true_eq] at hk
  refine Decidable.byContradiction fun hn => ?_
  have e : o.kind = 1 ∨ o.kind = 2 ∨ o.kind = 3 ∨ o.kind = 4 ∨ o.kind = 5 ∨ o.kind = 6 ∨ o.kind = 7 ∨ o.kind = 8 ∨ o.kind = 9 ∨ o.kind = 10 ∨ o.kind = 11 ∨ o.kind = 12 ∨ o.kind = 13 ∨ o.kind = 14 ∨ o.kind = 15 ∨ o.kind = 16 ∨ o.kind = 17 := by omega
  clear hk hn
  unfold valP at h
  rcases e with e | e | e | e | e | e | e | e | e | e | e | e | e | e | e | e | e <;> simp [e] at h
theorem set_word {l : List Int} (h : ∀ x ∈ l, wordR x) (i : Nat) (v : Int) (hv : wordR v) : ∀ x ∈ l.set i v, wordR x := by
  intro x hx
  rcases List.mem_or_eq_of_mem_set hx with hx | rfl
  · exact h x hx
  · exact hv
theorem getD_set_self {T : Type} (l : List T) (i : Nat) (v d : T) (h : i < l.length) : (l.set i v).getD i d = v := by
  rw [List.getD_eq_getElem?_getD, List.getElem?_set_self h]; rfl
theorem getD_set_ne {T : Type} (l : List T) (i j : Nat) (v d : T) (h : i ≠ j) : (l.set i v).getD j d = l.getD j d := by
  rw [List.getD_eq_getElem?_getD, List.getD_eq_getElem?_getD, List.getElem?_set_ne h]
theorem getD_out {T : Type} (l : List T) (i : Nat) (d : T) (h : l.length ≤ i) : l.getD i d = d := by
  rw [List.getD_eq_getElem?_getD, List.getElem?_eq_none h]; rfl
theorem getD_nil_word {m : List (List Int)} (h : ∀ l ∈ m, ∀ x ∈ l, wordR x) (i : Nat) : ∀ x ∈ m.getD i [], wordR x := by
  rcases Nat.lt_or_ge i m.length with h1 | h1
  · exact h _ (getD_memI m i [] h1)
  · rw [getD_out m i [] h1]; intro x hx; simp at hx
theorem getD_word {l : List Int} (h : ∀ x ∈ l, wordR x) (i : Nat) : wordR (l.getD i 0) := by
  rcases Nat.lt_or_ge i l.length with h1 | h1
  · exact h _ (getD_memI l i 0 h1)
  · rw [getD_out l i 0 h1]; unfold wordR; omega
theorem fit_step {p : Ir} {s s' : St} {o : Opn} (h : Fit p s) (hs : stepP p s o = some s') : Fit p s' := by
  obtain ⟨h1, h2, h3, h4, h5⟩ := h
  unfold stepP at hs
  cases hv : pureP s.ts o with
  | some v =>
    rw [hv] at hs
    injection hs with hs
    subst hs
    have := valP_lt _ _ _ _ _ hv
    exact ⟨by simpa using h1, set_word h2 _ _ (by unfold wordR; omega), h3, h4, h5⟩
  | none =>
    rw [hv] at hs
    simp only at hs
    split at hs
    · cases hs
    · split at hs
      · injection hs with hs
        subst hs
        exact ⟨by simpa using h1, set_word h2 _ _ (getD_word (getD_nil_word h5 _) _), h3, h4, h5⟩
      · injection hs with hs
        subst hs
        have hw : wordR (if (p.arrays.getD o.imm.toNat arrNone).elem = 1 then srcP s.ts o 1 o.b % 256 else srcP s.ts o 1 o.b) := by
          have := srcP_word h2 o 1 o.b
          unfold wordR at this ⊢
          split <;> omega
        refine ⟨h1, h2, by simpa using h3, fun i hi => ?_, fun l hl => ?_⟩
        · simp only
          by_cases e : o.imm.toNat = i
          · subst e
            rw [getD_set_self _ _ _ _ (by omega), List.length_set]
            exact h4 _ hi
          · rw [getD_set_ne _ _ _ _ _ e]; exact h4 i hi
        · rcases List.mem_or_eq_of_mem_set hl with hl | rfl
          · exact h5 l hl
          · exact set_word (getD_nil_word h5 _) _ _ hw
theorem inAt_word (input : ByteArray) (a : Arr) (i : Nat) : wordR (inAt input a i) := by
  unfold inAt wordR
  split
  · have := le4_lt (input.data.toList.getD (a.off.toNat + 4 * i) 0) (input.data.toList.getD (a.off.toNat + 4 * i + 1) 0) (input.data.toList.getD (a.off.toNat + 4 * i + 2) 0) (input.data.toList.getD (a.off.toNat + 4 * i + 3) 0)
    omega
  · have := (input.data.toList.getD (a.off.toNat + i) 0).toNat_lt
    omega
theorem arrStart_len (input : ByteArray) (a : Arr) : (arrStart input a).length = a.len.toNat := by unfold arrStart; split <;> simp
theorem arrStart_word (input : ByteArray) (a : Arr) : ∀ x ∈ arrStart input a, wordR x := by
  unfold arrStart
  split
  · intro x hx
    obtain ⟨i, _, rfl⟩ := List.mem_map.1 hx
    exact inAt_word input a i
  · intro x hx
    rw [(List.mem_replicate.1 hx).2]; unfold wordR; omega
theorem fit_start (p : Ir) (input : ByteArray) : Fit p (startP p input) := by
  refine ⟨by simp [startP], ?_, by simp [startP], ?_, ?_⟩
  · intro x hx
    rw [(List.mem_replicate.1 hx).2]; unfold wordR; omega
  · intro i hi
    unfold startP
    simp only
    rw [List.getD_eq_getElem?_getD, List.getElem?_map, getD_some p.arrays i arrNone hi]
    exact arrStart_len _ _
  · intro l hl
    obtain ⟨a, _, rfl⟩ := List.mem_map.1 hl
    exact arrStart_word input a
theorem runP_succ (p : Ir) (n : Nat) (at_ : Int) (k : Nat) (s : St) (h : at_ ≠ -1) : runP p (n + 1) at_ k s = match mStep p at_ k s with
    | .inl r => r
    | .inr x => runP p n x.1 x.2.1 x.2.2 := by
  rw [runP, if_neg h]
theorem runP_none (p : Ir) (n : Nat) (k : Nat) (s : St) : runP p n (-1) k s = (bE, 19) := by cases n <;> rfl
theorem runP_zero (p : Ir) (at_ : Int) (k : Nat) (s : St) (h : at_ ≠ -1) : runP p 0 at_ k s = (bE, 20) := by rw [runP, if_neg h]
/-- With more budget a run that ended is the same. -/
theorem runP_more (p : Ir) (m : Nat) : ∀ (n : Nat) (at_ : Int) (k : Nat) (s : St), runP p n at_ k s = runP p (n + m) at_ k s ∨ runP p n at_ k s = (bE, 20)
  | 0, at_, k, s => by
    by_cases h : at_ = -1
    · subst h; left; rw [runP_none, runP_none]
    · right; exact runP_zero p at_ k s h
  | n + 1, at_, k, s => by
    by_cases h : at_ = -1
    · subst h; left; rw [runP_none, runP_none]
    · rw [show n + 1 + m = (n + m) + 1 by omega, runP_succ p n at_ k s h, runP_succ p (n + m) at_ k s h]
      cases mStep p at_ k s with
      | inl r => left; rfl
      | inr x => exact runP_more p m n _ _ _
end Go.Proofs.Ythkobddggoojlaa
