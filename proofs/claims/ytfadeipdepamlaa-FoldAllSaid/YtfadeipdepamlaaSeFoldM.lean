/- Parts of a proof. No condition but those that each theorem names. -/
import Derived.WalkKit
import Derived.OpenShut
import Derived.Below
import Derived.Lib.Hide
import Derived.Laws.OwnMore
import Derived.Deep.QuietTactic
import Derived.Deep.AppendLies
import Derived.ProofKit
import Derived.SizedLaws
import Derived.Test.YtfadeipdepamlaaProg
import Derived.Handy
import Derived.Deep.RegionHeld3
import Derived.BigQuiet
import Derived.Maps.AppendAt
import Derived.Maps.RangeWalk
import Derived.Maps.OwnSet
import Derived.StillTailTactics
import Derived.Laws.CopyOwn
import Derived.Lib.BufferWrite
import Derived.OrdersHeld
import Derived.RegionTactic
import Derived.Test.YtfadeipdepamlaaSeG0e2
import Derived.Test.YtfadeipdepamlaaSeG0e3
import Derived.Test.YtfadeipdepamlaaSeG0e7
import Derived.Test.YtfadeipdepamlaaSeG0e8
import Derived.Test.YtfadeipdepamlaaSeG1e5
import Derived.Test.YtfadeipdepamlaaSeG1e14
namespace Go.Proofs.Ytfadeipdepamlaa
open Go.RowKit
set_option linter.unusedVariables false
def fdNum (o : Opn) (n : Int) : Opn := ⟨1, o.dst, 0, 0, 0, n⟩
def fdCopied (f : Int → Option Int) (o : Opn) (t : Int) : Opn := match f t with
  | some n => fdNum o n
  | none => ⟨2, o.dst, t, 0, 0, 0⟩
def fdIs (f : Int → Option Int) (t n : Int) : Bool := decide (f t = some n)
def fdSrc (f : Int → Option Int) (o : Opn) (j : Nat) (t : Int) : Int := if j < fSrc o.kind then (f t).getD 0 else 0
def fdHas (f : Int → Option Int) (o : Opn) (j : Nat) (t : Int) : Bool := !decide (j < fSrc o.kind) || (f t).isSome
def fdReck (f : Int → Option Int) (o : Opn) : Option Int :=
  if fdHas f o 0 o.a = true ∧ fdHas f o 1 o.b = true ∧ fdHas f o 2 o.c = true then (valP o (fdSrc f o 0 o.a) (fdSrc f o 1 o.b) (fdSrc f o 2 o.c)).map Int.ofNat else none
def fdBeside (f : Int → Option Int) (o : Opn) (lets : Int) (zero : Bool) : Option Opn :=
  if zero = true ∧ (fdIs f o.a 0 = true ∨ fdIs f o.b 0 = true) then some (fdNum o 0)
  else if fdIs f o.a lets = true then some (fdCopied f o o.b)
  else if fdIs f o.b lets = true then some (fdCopied f o o.a) else none
def fdOne (f : Int → Option Int) (o : Opn) : Option Opn :=
  if o.kind = 3 ∨ o.kind = 8 ∨ o.kind = 9 then fdBeside f o 0 false
  else if o.kind = 5 then fdBeside f o 1 true
  else if o.kind = 7 then fdBeside f o 4294967295 true
  else if o.kind = 4 then (if fdIs f o.b 0 = true then some (fdCopied f o o.a) else none)
  else if o.kind = 11 ∨ o.kind = 12 ∨ o.kind = 13 then (if o.imm = 0 then some (fdCopied f o o.a) else none)
  else if o.kind = 17 then (if fdIs f o.c 4294967295 = true ∨ o.a = o.b then some (fdCopied f o o.a) else if fdIs f o.c 0 = true then some (fdCopied f o o.b) else none)
  else none
def fdSame (f : Int → Option Int) (o : Opn) : Opn :=
  if o.a ≠ o.b then o
  else if o.kind = 4 ∨ o.kind = 9 ∨ o.kind = 14 then fdNum o 0
  else if o.kind = 15 then fdNum o 4294967295
  else if o.kind = 7 ∨ o.kind = 8 then fdCopied f o o.a
  else o
def fdOp (f : Int → Option Int) (o : Opn) : Opn := match fdReck f o with
  | some n => fdNum o n
  | none => match fdOne f o with
    | some x => x
    | none => fdSame f o
def fdMap (f : Int → Option Int) (q : Opn) : Int → Option Int := if q.kind = 1 then upd f q.dst q.imm else if fDst q.kind = true then (fun k => if k = q.dst then none else f k) else f
def fdStep (s : (Int → Option Int) × List Opn) (o : Opn) : (Int → Option Int) × List Opn := (fdMap s.1 (fdOp s.1 o), s.2 ++ [fdOp s.1 o])
def fdList (l : List Opn) : (Int → Option Int) × List Opn := l.foldl fdStep (fun _ => none, [])
def fdTrm (f : Int → Option Int) (t : Trm) : Trm := if t.kind = 2 then (match f t.a with
  | some n => ⟨1, 0, if n = 4294967295 then t.yes else if n = 0 then t.no else -1, 0⟩
  | none => t) else t
def fdBlk (b : Blk) : Blk := ⟨(fdList b.ops).2, fdTrm (fdList b.ops).1 b.term⟩
def fdIr (p : Ir) : Ir := ⟨p.temps, p.arrays, p.blocks.map fdBlk, p.inp, p.out⟩
theorem fdList_snoc (l : List Opn) (o : Opn) : fdList (l ++ [o]) = fdStep (fdList l) o := by unfold fdList; rw [List.foldl_append]; rfl
theorem fdFold_pre : ∀ (l : List Opn) (s : (Int → Option Int) × List Opn), ∃ m, (l.foldl fdStep s).2 = s.2 ++ m ∧ m.length = l.length
  | [], s => ⟨[], by simp, rfl⟩
  | o :: l, s => by
    obtain ⟨m, hm, hl⟩ := fdFold_pre l (fdStep s o)
    exact ⟨fdOp s.1 o :: m, by rw [List.foldl_cons, hm]; simp [fdStep], by simp [hl]⟩
theorem fdList_len (l : List Opn) : (fdList l).2.length = l.length := by
  obtain ⟨m, h1, h2⟩ := fdFold_pre l (fun _ => none, [])
  unfold fdList
  rw [h1]; simpa using h2
theorem fdList_at (l : List Opn) (k : Nat) (h : k < l.length) : (fdList l).2.getD k opNone = fdOp (fdList (l.take k)).1 (l.getD k opNone) := by
  have e : fdList l = (l.drop (k + 1)).foldl fdStep (fdStep (fdList (l.take k)) (l.getD k opNone)) := by
    rw [← fdList_snoc, ← take_succ_getD l k opNone h]
    unfold fdList
    rw [← List.foldl_append, List.take_append_drop]
  obtain ⟨m, hm, _⟩ := fdFold_pre (l.drop (k + 1)) (fdStep (fdList (l.take k)) (l.getD k opNone))
  have hl := fdList_len (l.take k)
  rw [List.length_take, Nat.min_eq_left (by omega)] at hl
  rw [e, hm]
  show (((fdList (l.take k)).2 ++ [_]) ++ m).getD k opNone = _
  rw [List.getD_eq_getElem?_getD, List.append_assoc, List.getElem?_append_right (by omega), hl, Nat.sub_self]
  rfl
/-- What is known of a temp is what it holds. -/
def FdSt (f : Int → Option Int) (ts : List Int) : Prop := ∀ t n, f t = some n → rdT ts t = n
def FdOk (p : Ir) (f : Int → Option Int) : Prop := ∀ t n, f t = some n → isTemp p t ∧ wordR n
def AllW (ts : List Int) : Prop := ∀ x ∈ ts, wordR x
/-- A folded operation is the operation itself, or makes a number, or copies a temp that is not known; it makes the same. -/
def FdGood (p : Ir) (f : Int → Option Int) (o q : Opn) : Prop := q = o ∨ fDst o.kind = true ∧
  ((∃ n, wordR n ∧ q = fdNum o n ∧ ∀ ts, AllW ts → FdSt f ts → pureP ts o = some n.toNat) ∨ ∃ t, f t = none ∧ isTemp p t ∧ q = ⟨2, o.dst, t, 0, 0, 0⟩ ∧ ∀ ts, AllW ts → FdSt f ts → pureP ts o = some (rdT ts t).toNat)
theorem good_num {p : Ir} {f : Int → Option Int} {o : Opn} (hd : fDst o.kind = true) (n : Int) (hn : wordR n) (h : ∀ ts, AllW ts → FdSt f ts → pureP ts o = some n.toNat) : FdGood p f o (fdNum o n) := Or.inr ⟨hd, Or.inl ⟨n, hn, rfl, h⟩⟩
theorem good_copied {p : Ir} {f : Int → Option Int} (hf : FdOk p f) {o : Opn} (hd : fDst o.kind = true) (t : Int) (ht : isTemp p t) (h : ∀ ts, AllW ts → FdSt f ts → pureP ts o = some (rdT ts t).toNat) : FdGood p f o (fdCopied f o t) := by
  unfold fdCopied
  cases e : f t with
  | some n => exact good_num hd n (hf t n e).2 (fun ts h1 h2 => by rw [h ts h1 h2, h2 t n e])
  | none => exact Or.inr ⟨hd, Or.inr ⟨t, e, ht, rfl, h⟩⟩
theorem wd_of {y : Int} (h : wordR y) : wd y = y.toNat := by unfold wordR at h; unfold wd; omega
theorem wd0 : wd 0 = 0 := by decide
theorem wd1 : wd 1 = 1 := by decide
theorem wdm : wd 4294967295 = 4294967295 := by decide
theorem toNat_lt {y : Int} (h : wordR y) : y.toNat < 4294967296 := by unfold wordR at h; omega
theorem and_m {n : Nat} (h : n < 4294967296) : n &&& 4294967295 = n := by
  rw [show (4294967295 : Nat) = 2 ^ 32 - 1 from rfl, Nat.and_two_pow_sub_one_eq_mod]; exact Nat.mod_eq_of_lt h
theorem m_and {n : Nat} (h : n < 4294967296) : 4294967295 &&& n = n := by rw [Nat.and_comm]; exact and_m h
theorem sh0 : sh 0 = 0 := by decide
section
variable {x y z : Int}
theorem v_add0 (h : wordR y) : wAdd 0 y = y.toNat := by unfold wAdd; rw [Int.zero_add, wd_of h]
theorem v_add1 (h : wordR y) : wAdd y 0 = y.toNat := by unfold wAdd; rw [Int.add_zero, wd_of h]
theorem v_or0 (h : wordR y) : wOr 0 y = y.toNat := by unfold wOr; rw [wd0, wd_of h, Nat.zero_or]
theorem v_or1 (h : wordR y) : wOr y 0 = y.toNat := by unfold wOr; rw [wd0, wd_of h, Nat.or_zero]
theorem v_xor0 (h : wordR y) : wXor 0 y = y.toNat := by unfold wXor; rw [wd0, wd_of h, Nat.zero_xor]
theorem v_xor1 (h : wordR y) : wXor y 0 = y.toNat := by unfold wXor; rw [wd0, wd_of h, Nat.xor_zero]
theorem v_mul0 : wMul 0 y = 0 := by unfold wMul; rw [wd0, Nat.zero_mul]
theorem v_mul1 : wMul y 0 = 0 := by unfold wMul; rw [wd0, Nat.mul_zero]
theorem v_mul2 (h : wordR y) : wMul 1 y = y.toNat := by unfold wMul; rw [wd1, wd_of h, Nat.one_mul, Nat.mod_eq_of_lt (toNat_lt h)]
theorem v_mul3 (h : wordR y) : wMul y 1 = y.toNat := by unfold wMul; rw [wd1, wd_of h, Nat.mul_one, Nat.mod_eq_of_lt (toNat_lt h)]
theorem v_and0 : wAnd 0 y = 0 := by unfold wAnd; rw [wd0, Nat.zero_and]
theorem v_and1 : wAnd y 0 = 0 := by unfold wAnd; rw [wd0, Nat.and_zero]
theorem v_and2 (h : wordR y) : wAnd 4294967295 y = y.toNat := by unfold wAnd; rw [wdm, wd_of h, m_and (toNat_lt h)]
theorem v_and3 (h : wordR y) : wAnd y 4294967295 = y.toNat := by unfold wAnd; rw [wdm, wd_of h, and_m (toNat_lt h)]
theorem v_sub0 (h : wordR y) : wSub y 0 = y.toNat := by unfold wSub; rw [Int.sub_zero, wd_of h]
theorem v_shl0 (h : wordR y) : wShl y 0 = y.toNat := by unfold wShl; rw [sh0, wd_of h, Nat.pow_zero, Nat.mul_one, Nat.mod_eq_of_lt (toNat_lt h)]
theorem v_shr0 (h : wordR y) : wShr y 0 = y.toNat := by unfold wShr; rw [sh0, wd_of h, Nat.pow_zero, Nat.div_one]
theorem v_ror0 (h : wordR y) : wRor y 0 = y.toNat := by unfold wRor; rw [sh0, wd_of h, Nat.pow_zero, Nat.div_one, Nat.mod_one, Nat.zero_mul, Nat.add_zero]
theorem v_sel1 (h : wordR x) : wSelect 4294967295 x y = x.toNat := by unfold wSelect; rw [wdm, wd_of h, and_m (toNat_lt h), Nat.sub_self, Nat.and_zero, Nat.or_zero]
theorem v_sel0 (h : wordR y) : wSelect 0 x y = y.toNat := by unfold wSelect; rw [wd0, wd_of h, Nat.and_zero, Nat.sub_zero, and_m (toNat_lt h), Nat.zero_or]
theorem v_self (h : wordR x) : wSelect z x x = x.toNat := by
  unfold wSelect
  rw [wd_of h, ← Nat.and_or_distrib_left]
  have hz := wd_lt z
  have e : wd z ||| (4294967295 - wd z) = 4294967295 := by
    have e2 : 4294967295 - wd z = 2 ^ 32 - (wd z + 1) := by
      rw [show (2 : Nat) ^ 32 = 4294967296 from rfl]; omega
    have hz2 : wd z < 2 ^ 32 := hz
    rw [e2]
    apply Nat.eq_of_testBit_eq
    intro i
    rw [show (4294967295 : Nat) = 2 ^ 32 - 1 from rfl]
    simp only [Nat.testBit_or, Nat.testBit_two_pow_sub_succ hz2, Nat.testBit_two_pow_sub_one]
    by_cases h : i < 32
    · simp [h]
    · have hb : (wd z).testBit i = false := Nat.testBit_lt_two_pow (Nat.lt_of_lt_of_le hz2 (Nat.pow_le_pow_right (by decide) (show 32 ≤ i by omega)))
      simp [h, hb]
  rw [e, and_m (toNat_lt h)]
theorem v_subs : wSub y y = 0 := by unfold wSub; rw [Int.sub_self]; rfl
theorem v_xors : wXor y y = 0 := by unfold wXor; rw [Nat.xor_self]
theorem v_less : wLess y y = 0 := by unfold wLess; rw [decide_eq_false (Nat.lt_irrefl _)]; rfl
theorem v_same : wSame y y = 4294967295 := by unfold wSame; rw [decide_eq_true rfl]; rfl
theorem v_ands (h : wordR y) : wAnd y y = y.toNat := by unfold wAnd; rw [wd_of h, Nat.and_self]
theorem v_ors (h : wordR y) : wOr y y = y.toNat := by unfold wOr; rw [wd_of h, Nat.or_self]
end
section
variable {o : Opn} (ts : List Int)
theorem pure3 (h : o.kind = 3) : pureP ts o = some (wAdd (rdT ts o.a) (rdT ts o.b)) := by unfold pureP valP srcP; rw [h]; rfl
theorem pure4 (h : o.kind = 4) : pureP ts o = some (wSub (rdT ts o.a) (rdT ts o.b)) := by unfold pureP valP srcP; rw [h]; rfl
theorem pure5 (h : o.kind = 5) : pureP ts o = some (wMul (rdT ts o.a) (rdT ts o.b)) := by unfold pureP valP srcP; rw [h]; rfl
theorem pure7 (h : o.kind = 7) : pureP ts o = some (wAnd (rdT ts o.a) (rdT ts o.b)) := by unfold pureP valP srcP; rw [h]; rfl
theorem pure8 (h : o.kind = 8) : pureP ts o = some (wOr (rdT ts o.a) (rdT ts o.b)) := by unfold pureP valP srcP; rw [h]; rfl
theorem pure9 (h : o.kind = 9) : pureP ts o = some (wXor (rdT ts o.a) (rdT ts o.b)) := by unfold pureP valP srcP; rw [h]; rfl
theorem pure11 (h : o.kind = 11) : pureP ts o = some (wShl (rdT ts o.a) o.imm) := by unfold pureP valP srcP; rw [h]; rfl
theorem pure12 (h : o.kind = 12) : pureP ts o = some (wShr (rdT ts o.a) o.imm) := by unfold pureP valP srcP; rw [h]; rfl
theorem pure13 (h : o.kind = 13) : pureP ts o = some (wRor (rdT ts o.a) o.imm) := by unfold pureP valP srcP; rw [h]; rfl
theorem pure14 (h : o.kind = 14) : pureP ts o = some (wLess (rdT ts o.a) (rdT ts o.b)) := by unfold pureP valP srcP; rw [h]; rfl
theorem pure15 (h : o.kind = 15) : pureP ts o = some (wSame (rdT ts o.a) (rdT ts o.b)) := by unfold pureP valP srcP; rw [h]; rfl
theorem pure17 (h : o.kind = 17) : pureP ts o = some (wSelect (rdT ts o.c) (rdT ts o.a) (rdT ts o.b)) := by unfold pureP valP srcP; rw [h]; rfl
end
theorem fIs {f : Int → Option Int} {t n : Int} (h : fdIs f t n = true) : f t = some n := by unfold fdIs at h; rwa [decide_eq_true_eq] at h
theorem dst_of {p : Ir} {o : Opn} (ho : opP p o) (h : o.kind ≠ 19) : fDst o.kind = true := by
  have h1 := ho.1
  unfold fOk at h1
  unfold fDst
  rw [decide_eq_true_eq] at h1 ⊢
  omega
theorem src_a {p : Ir} {o : Opn} (ho : opP p o) (h : 0 < fSrc o.kind) : isTemp p o.a := by
  have h3 := ho.2.2.2.1
  rw [decide_eq_true h] at h3
  exact h3
theorem src_b {p : Ir} {o : Opn} (ho : opP p o) (h : 1 < fSrc o.kind) : isTemp p o.b := by
  have h3 := ho.2.2.2.2.1
  rw [decide_eq_true h] at h3
  exact h3
theorem src_known {f : Int → Option Int} {o : Opn} {j : Nat} {t : Int} (h : fdHas f o j t = true) {ts : List Int} (hs : FdSt f ts) : srcP ts o j t = fdSrc f o j t := by
  unfold fdHas at h
  unfold srcP fdSrc
  by_cases hj : j < fSrc o.kind
  · rw [if_pos hj, if_pos hj]
    rw [decide_eq_true hj] at h
    simp at h
    cases e : f t with
    | none => rw [e] at h; simp at h
    | some n => exact hs t n e
  · rw [if_neg hj, if_neg hj]
theorem reck_some {f : Int → Option Int} {o : Opn} {n : Int} (h : fdReck f o = some n) : ∃ v : Nat, n = (v : Int) ∧ valP o (fdSrc f o 0 o.a) (fdSrc f o 1 o.b) (fdSrc f o 2 o.c) = some v ∧ ∀ ts, FdSt f ts → pureP ts o = some v := by
  unfold fdReck at h
  split at h
  · rename_i hc
    obtain ⟨h0, h1, h2⟩ := hc
    cases hv : valP o (fdSrc f o 0 o.a) (fdSrc f o 1 o.b) (fdSrc f o 2 o.c) with
    | none => rw [hv] at h; cases h
    | some v =>
      rw [hv] at h
      injection h with h
      refine ⟨v, h.symm, rfl, fun ts hs => ?_⟩
      unfold pureP
      rw [src_known h0 hs, src_known h1 hs, src_known h2 hs, hv]
  · cases h
theorem val_dst {p : Ir} {o : Opn} (ho : opP p o) {a b c : Int} {v : Nat} (h : valP o a b c = some v) : fDst o.kind = true := by
  refine dst_of ho fun e => ?_
  unfold valP at h
  rw [e] at h
  simp at h
theorem good_beside {p : Ir} {f : Int → Option Int} (hf : FdOk p f) {o : Opn} (ho : opP p o) (hd : fDst o.kind = true) (lets : Int) (zero : Bool) (ha : isTemp p o.a) (hb : isTemp p o.b)
    (hz0 : zero = true → ∀ ts, AllW ts → (rdT ts o.a = 0 ∨ rdT ts o.b = 0) → pureP ts o = some 0)
    (hl : ∀ ts, AllW ts → rdT ts o.a = lets → pureP ts o = some (rdT ts o.b).toNat) (hr : ∀ ts, AllW ts → rdT ts o.b = lets → pureP ts o = some (rdT ts o.a).toNat) {q : Opn} (h : fdBeside f o lets zero = some q) : FdGood p f o q := by
  unfold fdBeside at h
  split at h
  · rename_i hc
    injection h with h
    subst h
    refine good_num hd 0 (by unfold wordR; omega) fun ts h1 h2 => hz0 hc.1 ts h1 ?_
    rcases hc.2 with hx | hx
    · exact Or.inl (h2 _ _ (fIs hx))
    · exact Or.inr (h2 _ _ (fIs hx))
  · split at h
    · rename_i hx
      injection h with h
      subst h
      exact good_copied hf hd o.b hb fun ts h1 h2 => hl ts h1 (h2 _ _ (fIs hx))
    · split at h
      · rename_i hx
        injection h with h
        subst h
        exact good_copied hf hd o.a ha fun ts h1 h2 => hr ts h1 (h2 _ _ (fIs hx))
      · cases h
theorem good_one {p : Ir} {f : Int → Option Int} (hf : FdOk p f) {o : Opn} (ho : opP p o) {q : Opn} (h : fdOne f o = some q) : FdGood p f o q := by
  have hw : ∀ {ts : List Int} (t : Int), AllW ts → wordR (rdT ts t) := fun t h => rdT_word h t
  unfold fdOne at h
  split at h
  · rename_i hk
    have h2 : fSrc o.kind = 2 := by unfold fSrc; rcases hk with hk | hk | hk <;> rw [hk] <;> rfl
    refine good_beside hf ho (dst_of ho (by omega)) 0 false (src_a ho (by omega)) (src_b ho (by omega)) (fun e => by cases e) (fun ts h1 e => ?_) (fun ts h1 e => ?_) h
    · rcases hk with hk | hk | hk
      · rw [pure3 ts hk, e, v_add0 (hw _ h1)]
      · rw [pure8 ts hk, e, v_or0 (hw _ h1)]
      · rw [pure9 ts hk, e, v_xor0 (hw _ h1)]
    · rcases hk with hk | hk | hk
      · rw [pure3 ts hk, e, v_add1 (hw _ h1)]
      · rw [pure8 ts hk, e, v_or1 (hw _ h1)]
      · rw [pure9 ts hk, e, v_xor1 (hw _ h1)]
  · split at h
    · rename_i hk
      have h2 : fSrc o.kind = 2 := by unfold fSrc; rw [hk]; rfl
      refine good_beside hf ho (dst_of ho (by omega)) 1 true (src_a ho (by omega)) (src_b ho (by omega)) (fun _ ts h1 e => ?_) (fun ts h1 e => ?_) (fun ts h1 e => ?_) h
      · rw [pure5 ts hk]
        rcases e with e | e
        · rw [e, v_mul0]
        · rw [e, v_mul1]
      · rw [pure5 ts hk, e, v_mul2 (hw _ h1)]
      · rw [pure5 ts hk, e, v_mul3 (hw _ h1)]
    · split at h
      · rename_i hk
        have h2 : fSrc o.kind = 2 := by unfold fSrc; rw [hk]; rfl
        refine good_beside hf ho (dst_of ho (by omega)) 4294967295 true (src_a ho (by omega)) (src_b ho (by omega)) (fun _ ts h1 e => ?_) (fun ts h1 e => ?_) (fun ts h1 e => ?_) h
        · rw [pure7 ts hk]
          rcases e with e | e
          · rw [e, v_and0]
          · rw [e, v_and1]
        · rw [pure7 ts hk, e, v_and2 (hw _ h1)]
        · rw [pure7 ts hk, e, v_and3 (hw _ h1)]
      · split at h
        · rename_i hk
          have h2 : fSrc o.kind = 2 := by unfold fSrc; rw [hk]; rfl
          split at h
          · rename_i hx
            injection h with h
            subst h
            refine good_copied hf (dst_of ho (by omega)) o.a (src_a ho (by omega)) fun ts h1 h2 => ?_
            rw [pure4 ts hk, h2 _ _ (fIs hx), v_sub0 (hw _ h1)]
          · cases h
        · split at h
          · rename_i hk
            have h2 : fSrc o.kind = 1 := by unfold fSrc; rcases hk with hk | hk | hk <;> rw [hk] <;> rfl
            split at h
            · rename_i hx
              injection h with h
              subst h
              refine good_copied hf (dst_of ho (by omega)) o.a (src_a ho (by omega)) fun ts h1 h2 => ?_
              rcases hk with hk | hk | hk
              · rw [pure11 ts hk, hx, v_shl0 (hw _ h1)]
              · rw [pure12 ts hk, hx, v_shr0 (hw _ h1)]
              · rw [pure13 ts hk, hx, v_ror0 (hw _ h1)]
            · cases h
          · split at h
            · rename_i hk
              have h2 : fSrc o.kind = 3 := by unfold fSrc; rw [hk]; rfl
              split at h
              · rename_i hx
                injection h with h
                subst h
                refine good_copied hf (dst_of ho (by omega)) o.a (src_a ho (by omega)) fun ts h1 h2 => ?_
                rw [pure17 ts hk]
                rcases hx with hx | hx
                · rw [h2 _ _ (fIs hx), v_sel1 (hw _ h1)]
                · rw [← hx, v_self (hw _ h1)]
              · split at h
                · rename_i hx
                  injection h with h
                  subst h
                  refine good_copied hf (dst_of ho (by omega)) o.b (src_b ho (by omega)) fun ts h1 h2 => ?_
                  rw [pure17 ts hk, h2 _ _ (fIs hx), v_sel0 (hw _ h1)]
                · cases h
            · cases h
theorem good_same {p : Ir} {f : Int → Option Int} (hf : FdOk p f) {o : Opn} (ho : opP p o) : FdGood p f o (fdSame f o) := by
  have hw : ∀ {ts : List Int} (t : Int), AllW ts → wordR (rdT ts t) := fun t h => rdT_word h t
  unfold fdSame
  split
  · exact Or.inl rfl
  · rename_i hab
    have hab : o.a = o.b := by simpa using hab
    split
    · rename_i hk
      refine good_num (dst_of ho (by omega)) 0 (by unfold wordR; omega) fun ts h1 h2 => ?_
      rcases hk with hk | hk | hk
      · rw [pure4 ts hk, hab, v_subs]; rfl
      · rw [pure9 ts hk, hab, v_xors]; rfl
      · rw [pure14 ts hk, hab, v_less]; rfl
    · split
      · rename_i hk
        refine good_num (dst_of ho (by omega)) 4294967295 (by unfold wordR; omega) fun ts h1 h2 => ?_
        rw [pure15 ts hk, hab, v_same]; rfl
      · split
        · rename_i hk
          have h2 : fSrc o.kind = 2 := by unfold fSrc; rcases hk with hk | hk <;> rw [hk] <;> rfl
          refine good_copied hf (dst_of ho (by omega)) o.a (src_a ho (by omega)) fun ts h1 h2 => ?_
          rcases hk with hk | hk
          · rw [pure7 ts hk, ← hab, v_ands (hw _ h1)]
          · rw [pure8 ts hk, ← hab, v_ors (hw _ h1)]
        · exact Or.inl rfl
theorem fd_good {p : Ir} {f : Int → Option Int} (hf : FdOk p f) {o : Opn} (ho : opP p o) : FdGood p f o (fdOp f o) := by
  unfold fdOp
  cases hr : fdReck f o with
  | some n =>
    obtain ⟨v, rfl, h1, h2⟩ := reck_some hr
    have hv := valP_lt _ _ _ _ v h1
    refine good_num (val_dst ho h1) v (by unfold wordR; omega) fun ts _ hs => ?_
    rw [h2 ts hs]; rfl
  | none =>
    cases ho1 : fdOne f o with
    | some x => exact good_one hf ho ho1
    | none => exact good_same hf ho
theorem good_op {p : Ir} {f : Int → Option Int} {o q : Opn} (ho : opP p o) (h : FdGood p f o q) : opP p q := by
  rcases h with rfl | ⟨hd, ⟨n, hn, rfl, _⟩ | ⟨t, _, ht, rfl, _⟩⟩
  · exact ho
  · unfold wordR at hn
    refine ⟨rfl, ⟨hn.1, ?_⟩, ?_, rfl, rfl, rfl, ?_⟩
    · show n ≤ 4294967295; omega
    · show isTemp p o.dst; exact opP_dst ho hd
    · intro hk; have hk : (1 : Int) = 18 ∨ (1 : Int) = 19 := hk; omega
  · refine ⟨rfl, ⟨Int.le_refl _, Int.le_refl _⟩, (show isTemp p o.dst from opP_dst ho hd), ht, rfl, rfl, ?_⟩
    intro hk; have hk : (2 : Int) = 18 ∨ (2 : Int) = 19 := hk; omega
theorem FdOk.map {p : Ir} {f : Int → Option Int} (h : FdOk p f) {q : Opn} (hq : opP p q) : FdOk p (fdMap f q) := by
  unfold fdMap
  split
  · rename_i hk
    intro t n e
    unfold upd at e
    split at e
    · rename_i ht
      injection e with e
      subst ht e
      have h2 := hq.2.1
      rw [hk] at h2
      have h3 : q.imm ≤ 4294967295 := h2.2
      exact ⟨opP_dst hq (by rw [hk]; rfl), by unfold wordR; omega⟩
    · exact h t n e
  · split
    · intro t n e
      simp only at e
      split at e
      · cases e
      · exact h t n e
    · exact h
theorem FdSt.step {p : Ir} {f : Int → Option Int} (hf : FdOk p f) {s s' : St} (h : FdSt f s.ts) (hfit : Fit p s) {q : Opn} (hq : opP p q) (hs : stepP p s q = some s') : FdSt (fdMap f q) s'.ts := by
  obtain ⟨h1, h2⟩ := step_ts hs hq.1
  unfold fdMap
  split
  · rename_i hk
    have hd : fDst q.kind = true := by rw [hk]; rfl
    obtain ⟨v, e, _, hv⟩ := h1 hd
    have hdt := opP_dst hq hd
    rw [e]
    intro t n hn
    unfold upd at hn
    split at hn
    · rename_i ht
      injection hn with hn
      subst ht hn
      rw [rdT_set hfit.tl hdt hdt.1, if_pos rfl]
      have hp : pureP s.ts q = some (wd q.imm) := by unfold pureP valP; rw [if_pos hk]
      rw [hv _ hp]
      have h2 := hq.2.1
      rw [hk] at h2
      have h3 : q.imm ≤ 4294967295 := h2.2
      rw [wd_cast]; omega
    · rename_i ht
      rw [rdT_set hfit.tl hdt (hf t n hn).1.1, if_neg ht]
      exact h t n hn
  · split
    · rename_i hd
      obtain ⟨v, e, _, _⟩ := h1 hd
      have hdt := opP_dst hq hd
      rw [e]
      intro t n hn
      simp only at hn
      split at hn
      · cases hn
      · rename_i ht
        rw [rdT_set hfit.tl hdt (hf t n hn).1.1, if_neg ht]
        exact h t n hn
    · rename_i hd
      rw [h2 hd]; exact h
theorem fdFold_ok {p : Ir} : ∀ (l : List Opn) (s : (Int → Option Int) × List Opn), FdOk p s.1 → (∀ o ∈ s.2, opP p o) → (∀ o ∈ l, opP p o) → FdOk p (l.foldl fdStep s).1 ∧ ∀ o ∈ (l.foldl fdStep s).2, opP p o
  | [], s, h1, h2, _ => ⟨h1, h2⟩
  | o :: l, s, h1, h2, h3 => by
    rw [List.foldl_cons]
    have ho := h3 o (by simp)
    have hq := good_op ho (fd_good h1 ho)
    refine fdFold_ok l _ (h1.map hq) (fun x hx => ?_) (fun x hx => h3 x (by simp [hx]))
    rcases List.mem_append.1 (show x ∈ s.2 ++ [fdOp s.1 o] from hx) with hx | hx
    · exact h2 x hx
    · rw [List.mem_singleton.1 hx]; exact hq
theorem fdOk_nil (p : Ir) : FdOk p (fun _ => none) := fun t n h => by (cases h)
theorem fdList_ok {p : Ir} {l : List Opn} (h : ∀ o ∈ l, opP p o) : FdOk p (fdList l).1 ∧ ∀ o ∈ (fdList l).2, opP p o := fdFold_ok l _ (fdOk_nil p) (fun o ho => by simp at ho) h
theorem fdTrm_P {p : Ir} {f : Int → Option Int} {t : Trm} (ht : trmP p t) : trmP p (fdTrm f t) := by
  unfold fdTrm
  split
  · rename_i h2
    cases e : f t.a with
    | none => exact ht
    | some n =>
      rcases ht with ⟨h, _⟩ | ⟨h, _, h3, h4⟩ | ⟨h, _⟩
      · omega
      · refine Or.inl ⟨rfl, rfl, rfl, ?_⟩
        show labelP p (if n = 4294967295 then t.yes else if n = 0 then t.no else -1)
        split
        · exact h3
        · split
          · exact h4
          · obtain ⟨a1, a2⟩ := h3
            unfold labelP; omega
      · omega
  · exact ht
theorem fd_err {p : Ir} (he : irErr p = 0) : irErr (fdIr p) = 0 := by
  obtain ⟨hng, ⟨⟨h1, h2, h3, h4⟩, h5, h6⟩⟩ := irErr_ok he
  have hlen : (p.blocks.map fdBlk).length = p.blocks.length := List.length_map ..
  have hg : ¬ greatP (fdIr p) := by
    unfold greatP at hng ⊢
    show ¬ (1048576 < p.temps ∨ 1048576 < (p.arrays.length : Int) ∨ 1048576 < ((p.blocks.map fdBlk).length : Int) ∨ 1048576 < (opsSum (p.blocks.map fdBlk) : Int) ∨ 65536 < max p.out 0 + railSum p.arrays)
    rw [hlen, opsSum_map (fun b => fdList_len b.ops)]
    exact hng
  have hm : mayP (fdIr p) := by
    refine ⟨⟨h1, h2, h3, ?_⟩, h5, ?_⟩
    · intro e
      have e : p.blocks.map fdBlk = [] := e
      exact h4 (List.map_eq_nil_iff.1 e)
    · intro b hb
      obtain ⟨c, hc, rfl⟩ := List.mem_map.1 (show b ∈ p.blocks.map fdBlk from hb)
      obtain ⟨g1, g2⟩ := h6 c hc
      obtain ⟨k1, k2⟩ := fdList_ok g1
      exact ⟨fun o ho => opP_like (p := p) (q := fdIr p) rfl rfl (k2 o ho), trmP_like (p := p) (q := fdIr p) rfl hlen (fdTrm_P g2)⟩
  unfold irErr
  rw [if_neg hg, if_pos hm]
/-- A program that may be is of numbers that lie in reach. -/
theorem may_fine {p : Ir} (h : p.fine) {q : Ir} (hq : irErr q = 0) (hT : q.temps = p.temps) (ha : q.arrays = p.arrays) (hi : q.inp = p.inp) (ho : q.out = p.out) : q.fine := by
  obtain ⟨hng, ⟨_, _, h6⟩⟩ := irErr_ok hq
  obtain ⟨f1, f2, f3, f4, f5, f6, f7⟩ := h
  have hn : (q.blocks.length : Int) ≤ 1048576 := by unfold greatP at hng; omega
  have hos : (opsSum q.blocks : Int) ≤ 1048576 := by unfold greatP at hng; omega
  have hTT : q.temps ≤ 1048576 := by unfold greatP at hng; omega
  have hsm : ∀ n : Int, -1 ≤ n → n ≤ 4294967295 → IntR n := fun n h0 h1 => by unfold IntR; omega
  have hfl : ∀ (b : Bool) (t : Int), fieldP q b t → IntR t := by
    intro b t ht
    cases b with
    | false => rw [show t = 0 from ht]; exact hsm 0 (by decide) (by decide)
    | true => obtain ⟨h0, h1⟩ := ht; exact hsm t (by omega) (by omega)
  refine ⟨by rw [hT]; exact f1, by rw [hi]; exact f2, by rw [ho]; exact f3, by rw [ha]; exact f4, by omega, by rw [ha]; exact f6, fun b hb => ⟨?_, fun o hoo => ?_, ?_⟩⟩
  · have hle : ∀ (l : List Blk), b ∈ l → b.ops.length ≤ opsSum l := by
      intro l
      induction l with
      | nil => intro h; simp at h
      | cons c l ih =>
        intro h
        rw [opsSum]
        rcases List.mem_cons.1 h with rfl | h
        · omega
        · have := ih h; omega
    have := hle _ hb
    omega
  · obtain ⟨o1, o2, o4, o5, o6, o7, o8⟩ := (h6 b hb).1 o hoo
    unfold fOk at o1
    rw [decide_eq_true_eq] at o1
    have hm : fMost o.kind ≤ 4294967295 := by unfold fMost; split <;> (try split) <;> (try split) <;> omega
    exact ⟨hsm _ (by omega) (by omega), hfl _ _ o4, hfl _ _ o5, hfl _ _ o6, hfl _ _ o7, hsm _ (by omega) (by omega)⟩
  · have hz := hsm 0 (by decide) (by decide)
    rcases (h6 b hb).2 with ⟨h1, h2, h3, h4, h5⟩ | ⟨h1, h2, h3, h4⟩ | ⟨h1, h2, h3, h4⟩
    · exact ⟨hsm _ (by omega) (by omega), by rw [h2]; exact hz, hsm _ h4 (by omega), by rw [h3]; exact hz⟩
    · obtain ⟨a1, a2⟩ := h2
      obtain ⟨b1, b2⟩ := h3
      obtain ⟨c1, c2⟩ := h4
      exact ⟨hsm _ (by omega) (by omega), hsm _ (by omega) (by omega), hsm _ b1 (by omega), hsm _ c1 (by omega)⟩
    · exact ⟨hsm _ (by omega) (by omega), by rw [h2]; exact hz, by rw [h3]; exact hz, by rw [h4]; exact hz⟩
theorem fine_noarr {q : Ir} (hq : irErr q = 0) (ha : q.arrays = []) : q.fine := by
  obtain ⟨hng, ⟨⟨h1, h2, h3, _⟩, _, _⟩⟩ := irErr_ok hq
  have hT : q.temps ≤ 1048576 := by unfold greatP at hng; omega
  have h : (⟨q.temps, [], [], q.inp, q.out⟩ : Ir).fine := ⟨by unfold IntR; simp only; omega, by unfold IntR; simp only; omega, by unfold IntR; simp only; omega, by simp, by simp, by intro x hx; simp at hx, by intro x hx; simp at hx⟩
  exact may_fine h hq rfl ha rfl rfl
theorem fd_fine {p : Ir} (he : irErr p = 0) (h : p.fine) : (fdIr p).fine := may_fine h (fd_err he) rfl rfl rfl rfl
/-- Where all temps are known and nothing is loaded or stored, all is numbers. -/
theorem fd_all {p : Ir} (h0 : p.arrays = []) {f : Int → Option Int} (hk : ∀ t, isTemp p t → (f t).isSome = true) {o : Opn} (ho : opP p o) : ∃ n, fdOp f o = fdNum o n := by
  have hkind : o.kind ≠ 18 ∧ o.kind ≠ 19 := by
    have h8 := ho.2.2.2.2.2.2
    have h2 := ho.2.1.1
    rw [h0] at h8
    refine ⟨fun e => ?_, fun e => ?_⟩
    · have := (h8 (Or.inl e)).1
      simp at this; omega
    · have := (h8 (Or.inr e)).1
      simp at this; omega
  have hhas : ∀ (j : Nat) (t : Int), fieldP p (decide (j < fSrc o.kind)) t → fdHas f o j t = true := by
    intro j t ht
    unfold fdHas
    by_cases hj : j < fSrc o.kind
    · rw [decide_eq_true hj] at ht ⊢
      rw [hk t ht]; rfl
    · rw [decide_eq_false hj]; rfl
  cases hv : valP o (fdSrc f o 0 o.a) (fdSrc f o 1 o.b) (fdSrc f o 2 o.c) with
  | none => rcases valP_none hv ho.1 with e | e
            · exact absurd e hkind.1
            · exact absurd e hkind.2
  | some v =>
    refine ⟨(v : Int), ?_⟩
    have e : fdReck f o = some (v : Int) := by
      unfold fdReck
      rw [if_pos ⟨hhas 0 _ ho.2.2.2.1, hhas 1 _ ho.2.2.2.2.1, hhas 2 _ ho.2.2.2.2.2.1⟩, hv]; rfl
    unfold fdOp
    rw [e]
end Go.Proofs.Ytfadeipdepamlaa
