/- Parts of a proof. No condition but those that each theorem names. -/
import Derived.WalkKit
import Derived.OpenShut
import Derived.Below
import Derived.Lib.Hide
import Derived.Laws.OwnMore
import Derived.Deep.QuietTactic
import Derived.Deep.AppendLies
import Derived.ProofKit
import Derived.SizedLaws
import Derived.Test.YtfadeipdepamlaaProg
import Derived.Handy
import Derived.Deep.RegionHeld3
import Derived.BigQuiet
import Derived.Maps.AppendAt
import Derived.Maps.RangeWalk
import Derived.Maps.OwnSet
import Derived.StillTailTactics
import Derived.Laws.CopyOwn
import Derived.Lib.BufferWrite
import Derived.OrdersHeld
import Derived.RegionTactic
import Derived.Deep.DeepCutAuto
import Derived.Test.YtfadeipdepamlaaSdG0e0
import Derived.Test.YtfadeipdepamlaaSdIr
import Derived.Test.YtfadeipdepamlaaSdG1e2
import Derived.Test.YtfadeipdepamlaaSdG2e5
import Derived.Test.YtfadeipdepamlaaSdG1e8
import Derived.Test.YtfadeipdepamlaaSdG3e14
import Derived.Test.YtfadeipdepamlaaSdRefU
import Derived.Test.YtfadeipdepamlaaSdFoldM
import Derived.Test.YtfadeipdepamlaaSdG4e14
import Derived.Test.YtfadeipdepamlaaSdFoldA
namespace Go.Proofs.Ytfadeipdepamlaa
open Go.RowKit
set_option linter.unusedVariables false
def intEncF : Enc Int := flatEnc 1 (fun x => [.int .i64 x]) (fun _ => rfl)
theorem slRep_intsF {w : World} {base B : Nat} {v : Value} {l : List Int} {n : Nat} (hn : l.length = n) (hB : w.heap.size ≤ B) (h : w.ownsRow base 3 1 v n (l.map (.int .i64 ·))) : SlRep intEncF w B v l := by
  subst hn
  refine slRep_own (E := intEncF) (base := base) (t := 3) l (l.map fun x => [.int .i64 x]) (fun i x hx => ⟨[.int .i64 x], by rw [List.getElem?_map, hx]; rfl, rfl⟩) ?_ hB ?_
  · intro es he
    obtain ⟨o, _, rfl⟩ := List.mem_map.1 he
    rfl
  · have e : (l.map fun x => [Value.int .i64 x]).flatten = l.map (.int .i64 ·) := by
      clear h
      induction l with
      | nil => rfl
      | cons x l ih => simp only [List.map_cons, List.flatten_cons, List.singleton_append, ih]
    rw [e]; exact h
theorem int_atF {w : World} {B : Nat} {A : Option Addr} {c n : Nat} {l : List Int} (hn : l.length = n) (h : SlRep intEncF w B (.slice A n c) l) (k : Nat) (hk : k < n) :
    ∃ b off, A = some ⟨b, off, none⟩ ∧ b < B ∧ w.cell? ⟨b, off + k, none⟩ = some (.int .i64 (l.getD k 0)) := by
  subst hn
  obtain ⟨A', c', e, _, h⟩ := h
  injection e with e
  subst e
  obtain ⟨b, off, es, e1, h1, h2, h3⟩ := h k _ (getD_some l k 0 hk)
  have h2 : es = [.int .i64 (l.getD k 0)] := h2
  subst h2
  have h4 := h3 0 _ rfl
  rw [show intEncF.size = 1 from rfl, Nat.mul_one, Nat.add_zero] at h4
  exact ⟨b, off, e1, h1, h4⟩
def arr3 (v : Nat → Int) : Array Value := #[.int .i64 (v 0), .int .i64 (v 1), .int .i64 (v 2)]
theorem arr3_set (v : Nat → Int) (m : Nat) (hm : m < 3) (x : Int) : (arr3 v).setIfInBounds m (.int .i64 x) = arr3 (fun j => if j = m then x else v j) := by
  match m, hm with
  | 0, _ => rfl
  | 1, _ => rfl
  | 2, _ => rfl
theorem arr3_at (v : Nat → Int) (m : Nat) (hm : m < 3) : (arr3 v)[m]? = some (.int .i64 (v m)) := by
  match m, hm with
  | 0, _ => rfl
  | 1, _ => rfl
  | 2, _ => rfl
/-- What the sources' values hold behind m of them. -/
structure FtSrc (f : Int → Option Int) (sl : List Int) (m : Nat) (v : Nat → Int) (all : Bool) : Prop where
  yes : all = true → ∀ j, j < m → f (sl.getD j 0) = some (v j)
  no : all = false → ∃ j, j < m ∧ f (sl.getD j 0) = none
  zero : ∀ j, m ≤ j → v j = 0
theorem FtSrc.start (f : Int → Option Int) (sl : List Int) : FtSrc f sl 0 (fun _ => 0) true := ⟨fun _ j h => (by omega), fun h => (by cases h), fun _ _ => rfl⟩
theorem FtSrc.step {f : Int → Option Int} {sl : List Int} {m : Nat} {v : Nat → Int} {all : Bool} (h : FtSrc f sl m v all) (x : Option Int) (hx : f (sl.getD m 0) = x) (n : Int) (hn : ∀ y, x = some y → n = y) : FtSrc f sl (m + 1) (fun j => if j = m then n else v j) (all && x.isSome) := by
  subst hx
  refine ⟨fun ha j hj => ?_, fun ha => ?_, fun j hj => ?_⟩
  · simp only [Bool.and_eq_true] at ha
    by_cases e : j = m
    · subst e
      simp only [if_true]
      cases hf : f (sl.getD j 0) with
      | none => rw [hf] at ha; cases ha.2
      | some y => rw [hn y hf]
    · simp only [if_neg e]
      exact h.yes ha.1 j (by omega)
  · cases hall : all with
    | false =>
      obtain ⟨j, hj, hf⟩ := h.no hall
      exact ⟨j, by omega, hf⟩
    | true =>
      rw [hall, Bool.true_and] at ha
      refine ⟨m, by omega, ?_⟩
      cases hf : f (sl.getD m 0) with
      | none => rfl
      | some y => rw [hf] at ha; cases ha
  · simp only [if_neg (show ¬ j = m by omega)]
    exact h.zero j (by omega)
theorem srcs_getD (o : Opn) (j : Nat) (hj : j < fSrc o.kind) : (srcsOf o).getD j 0 = [o.a, o.b, o.c].getD j 0 := by
  unfold srcsOf
  rw [List.getD_eq_getElem?_getD, List.getElem?_take_of_lt hj, List.getD_eq_getElem?_getD]
theorem srcs_len (o : Opn) : (srcsOf o).length = fSrc o.kind := by
  unfold srcsOf fSrc
  rw [List.length_take]
  split
  · rfl
  · split
    · rfl
    · split <;> rfl
theorem FtSrc.reck {f : Int → Option Int} {o : Opn} {v : Nat → Int} {all : Bool} (h : FtSrc f (srcsOf o) (fSrc o.kind) v all) : fdReck f o = if all = true then (valP o (v 0) (v 1) (v 2)).map Int.ofNat else none := by
  cases hall : all with
  | false =>
    obtain ⟨j, hj, hf⟩ := h.no hall
    rw [srcs_getD o j hj] at hf
    rw [reck_none hj hf]; rfl
  | true =>
    have hy := h.yes hall
    have hs : ∀ j, j < fSrc o.kind → f ([o.a, o.b, o.c].getD j 0) = some (v j) := fun j hj => by rw [← srcs_getD o j hj]; exact hy j hj
    rw [reck_all (fun j hj => by rw [hs j hj]; rfl), if_pos rfl]
    have e : ∀ (j : Nat) (t : Int), [o.a, o.b, o.c].getD j 0 = t → (if j < fSrc o.kind then (f t).getD 0 else 0) = v j := fun j t ht => by
      by_cases hj : j < fSrc o.kind
      · rw [if_pos hj]
        have := hs j hj
        rw [ht] at this
        rw [this]; rfl
      · rw [if_neg hj, h.zero j (by omega)]
    rw [e 0 o.a rfl, e 1 o.b rfl, e 2 o.c rfl]
/-- An operation whose number is not known. -/
def ftTail (f : Int → Option Int) (o : Opn) : Opn := match fdOne f o with
  | some x => x
  | none => fdSame f o
theorem ft_op_none {f : Int → Option Int} {o : Opn} (h : fdReck f o = none) : fdOp f o = ftTail f o := by unfold fdOp ftTail; rw [h]; rfl
theorem ft_op_some {f : Int → Option Int} {o : Opn} {n : Int} (h : fdReck f o = some n) : fdOp f o = fdNum o n := by unfold fdOp; rw [h]
end Go.Proofs.Ytfadeipdepamlaa
