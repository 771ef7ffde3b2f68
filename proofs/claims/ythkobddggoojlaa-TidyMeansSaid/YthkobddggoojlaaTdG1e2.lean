/- Parts of a proof, joined. No condition but those that each theorem names. -/
import Derived.WalkKit
import Derived.OpenShut
import Derived.Below
import Derived.Lib.Hide
import Derived.Laws.OwnMore
import Derived.Deep.QuietTactic
import Derived.Deep.AppendLies
import Derived.ProofKit
import Derived.SizedLaws
import Derived.Test.YthkobddggoojlaaProg
import Derived.Test.YthkobddggoojlaaTdG0e0
import Derived.Test.YthkobddggoojlaaTdIr
namespace Go.Proofs.Ythkobddggoojlaa
open Go.RowKit
set_option linter.unusedVariables false

def shapedP (a : Arr) : Prop := (a.elem = 1 ∨ a.elem = 4) ∧ 1 ≤ a.len ∧ a.len ≤ 16384
instance (a : Arr) : Decidable (shapedP a) := by unfold shapedP; infer_instance
def up4 (n : Int) : Int := (n + 3) / 4 * 4
def room (a : Arr) : Int := if shapedP a then up4 (a.elem * a.len) else 0
def railBytes (a : Arr) : Int := if a.kind = 0 then room a else 0
def railSum : List Arr → Int
  | [] => 0
  | a :: l => railBytes a + railSum l
def opsSum : List Blk → Nat
  | [] => 0
  | b :: l => b.ops.length + opsSum l
def greatP (p : Ir) : Prop := 1048576 < p.temps ∨ 1048576 < (p.arrays.length : Int) ∨ 1048576 < (p.blocks.length : Int) ∨ 1048576 < (opsSum p.blocks : Int) ∨ 65536 < max p.out 0 + railSum p.arrays
instance (p : Ir) : Decidable (greatP p) := by unfold greatP; infer_instance
theorem room_range (a : Arr) : 0 ≤ room a ∧ room a ≤ 65536 := by
  unfold room up4
  split
  · rename_i h
    obtain ⟨h1, h2, h3⟩ := h
    rcases h1 with h1 | h1 <;> rw [h1] <;> omega
  · omega
theorem railBytes_range (a : Arr) : 0 ≤ railBytes a ∧ railBytes a ≤ 65536 := by
  have := room_range a
  unfold railBytes; split <;> omega
theorem railSum_append : ∀ l m : List Arr, railSum (l ++ m) = railSum l + railSum m
  | [], m => by simp [railSum]
  | a :: l, m => by rw [List.cons_append, railSum, railSum, railSum_append l m]; omega
theorem railSum_nonneg : ∀ l : List Arr, 0 ≤ railSum l
  | [] => by simp [railSum]
  | a :: l => by have := railBytes_range a; have := railSum_nonneg l; rw [railSum]; omega
theorem railSum_take (l : List Arr) (k : Nat) : railSum (l.take k) ≤ railSum l := by
  have h : railSum (l.take k ++ l.drop k) = _ := railSum_append _ _
  rw [List.take_append_drop] at h
  have := railSum_nonneg (l.drop k)
  omega
theorem opsSum_append : ∀ l m : List Blk, opsSum (l ++ m) = opsSum l + opsSum m
  | [], m => by simp [opsSum]
  | a :: l, m => by rw [List.cons_append, opsSum, opsSum, opsSum_append l m]; omega
theorem opsSum_take (l : List Blk) (k : Nat) : opsSum (l.take k) ≤ opsSum l := by
  have h : opsSum (l.take k ++ l.drop k) = _ := opsSum_append _ _
  rw [List.take_append_drop] at h
  omega
/-- May an array be, and where does the output's next one begin? -/
def arrStep (inp out en : Int) (a : Arr) : Option Int :=
  if ¬ shapedP a then none
  else if a.kind = 0 then (if a.off = 0 then some en else none)
  else if a.kind = 1 then (if 0 ≤ a.off ∧ a.off ≤ inp - a.elem * a.len ∧ a.off % 4 = 0 then some en else none)
  else if a.kind = 2 then (if en ≤ a.off ∧ a.off ≤ out - a.elem * a.len ∧ a.off % 4 = 0 then some (up4 (a.off + a.elem * a.len)) else none)
  else none
def arrEnd (inp out : Int) : List Arr → Int → Option Int
  | [], en => some en
  | a :: l, en => match arrStep inp out en a with
    | none => none
    | some e => arrEnd inp out l e
theorem arrEnd_append (inp out : Int) : ∀ (l m : List Arr) (en : Int), arrEnd inp out (l ++ m) en = match arrEnd inp out l en with
    | none => none
    | some e => arrEnd inp out m e
  | [], m, en => rfl
  | a :: l, m, en => by
    rw [List.cons_append, arrEnd, arrEnd]
    cases arrStep inp out en a with
    | none => rfl
    | some e => exact arrEnd_append inp out l m e
/-- An operation's form: does it make a temp, how many does it read, its number's bound, is there one? -/
def fDst (k : Int) : Bool := decide (1 ≤ k ∧ k ≤ 18)
def fSrc (k : Int) : Nat := if k = 2 ∨ k = 10 ∨ k = 11 ∨ k = 12 ∨ k = 13 ∨ k = 18 then 1 else if k = 17 then 3 else if 3 ≤ k ∧ k ≤ 19 then 2 else 0
def fMost (k : Int) : Int := if k = 1 then 4294967295 else if 11 ≤ k ∧ k ≤ 13 then 31 else if k = 18 ∨ k = 19 then 1048576 else 0
def fOk (k : Int) : Bool := decide (1 ≤ k ∧ k ≤ 19)
def isTemp (p : Ir) (t : Int) : Prop := 0 ≤ t ∧ t < p.temps
instance (p : Ir) (t : Int) : Decidable (isTemp p t) := by unfold isTemp; infer_instance
def fieldP (p : Ir) (there : Bool) (t : Int) : Prop := if there then isTemp p t else t = 0
instance (p : Ir) (b : Bool) (t : Int) : Decidable (fieldP p b t) := by unfold fieldP; infer_instance
def arrNone : Arr := ⟨0, 0, 0, 0⟩
def opP (p : Ir) (o : Opn) : Prop := fOk o.kind = true ∧ (0 ≤ o.imm ∧ o.imm ≤ fMost o.kind) ∧ fieldP p (fDst o.kind) o.dst ∧ fieldP p (decide (0 < fSrc o.kind)) o.a ∧ fieldP p (decide (1 < fSrc o.kind)) o.b ∧ fieldP p (decide (2 < fSrc o.kind)) o.c ∧
  (o.kind = 18 ∨ o.kind = 19 → o.imm < p.arrays.length ∧ (o.kind = 18 ∨ (p.arrays.getD o.imm.toNat arrNone).kind ≠ 1))
instance (p : Ir) (o : Opn) : Decidable (opP p o) := by unfold opP; infer_instance
def labelP (p : Ir) (n : Int) : Prop := -1 ≤ n ∧ n < p.blocks.length
instance (p : Ir) (n : Int) : Decidable (labelP p n) := by unfold labelP; infer_instance
def trmP (p : Ir) (t : Trm) : Prop := (t.kind = 1 ∧ t.a = 0 ∧ t.no = 0 ∧ labelP p t.yes) ∨ (t.kind = 2 ∧ isTemp p t.a ∧ labelP p t.yes ∧ labelP p t.no) ∨ (t.kind = 3 ∧ t.a = 0 ∧ t.yes = 0 ∧ t.no = 0)
instance (p : Ir) (t : Trm) : Decidable (trmP p t) := by unfold trmP; infer_instance
def blkP (p : Ir) (b : Blk) : Prop := (∀ o ∈ b.ops, opP p o) ∧ trmP p b.term
instance (p : Ir) (b : Blk) : Decidable (blkP p b) := by unfold blkP; infer_instance
def headP (p : Ir) : Prop := (0 ≤ p.inp ∧ p.inp ≤ 65536 ∧ p.inp % 4 = 0) ∧ (0 ≤ p.out ∧ p.out ≤ 65536 ∧ p.out % 4 = 0) ∧ 0 ≤ p.temps ∧ p.blocks ≠ []
instance (p : Ir) : Decidable (headP p) := by unfold headP; infer_instance
def mayP (p : Ir) : Prop := headP p ∧ (arrEnd p.inp p.out p.arrays 0).isSome = true ∧ ∀ b ∈ p.blocks, blkP p b
instance (p : Ir) : Decidable (mayP p) := by unfold mayP; infer_instance
/-- The error of a program of blocks; 0: it may be. -/
def irErr (p : Ir) : Int := if greatP p then 18 else if mayP p then 0 else 2
end Go.Proofs.Ythkobddggoojlaa
namespace Go.Proofs.Ythkobddggoojlaa
open Go.RowKit
set_option linter.unusedVariables false
def trmNone : Trm := ⟨0, 0, 0, 0⟩
def blkNone : Blk := ⟨[], trmNone⟩
def opNone : Opn := ⟨0, 0, 0, 0, 0, 0⟩
theorem getD_some {T : Type} (l : List T) (k : Nat) (d : T) (h : k < l.length) : l[k]? = some (l.getD k d) := by
  rw [List.getD_eq_getElem?_getD, List.getElem?_eq_getElem h]; rfl
theorem getD_memI {T : Type} (l : List T) (k : Nat) (d : T) (h : k < l.length) : l.getD k d ∈ l := by
  rw [List.getD_eq_getElem?_getD, List.getElem?_eq_getElem h]; exact List.getElem_mem h
theorem take_succ_getD {T : Type} (l : List T) (k : Nat) (d : T) (h : k < l.length) : l.take (k + 1) = l.take k ++ [l.getD k d] := by
  rw [List.take_succ_eq_append_getElem h, List.getD_eq_getElem?_getD, List.getElem?_eq_getElem h]; rfl
/-- A slice that reads as a list is a slice of that length. -/
theorem SlRep.form {T : Type} {E : Enc T} {w : World} {B : Nat} {v : Value} {l : List T} (h : SlRep E w B v l) : ∃ A c, v = .slice A l.length c ∧ l.length ≤ c := by
  obtain ⟨A, c, e, hc, _⟩ := h
  exact ⟨A, c, e, hc⟩
theorem arr_at {w : World} {B : Nat} {A : Option Addr} {c : Nat} {l : List Arr} (h : SlRep arrEnc w B (.slice A l.length c) l) (k : Nat) (hk : k < l.length) :
    ∃ b off, A = some ⟨b, off, none⟩ ∧ b < B ∧ w.cell? ⟨b, off + k * 4, none⟩ = some (.int .i64 (l.getD k arrNone).elem) ∧ w.cell? ⟨b, off + k * 4 + 1, none⟩ = some (.int .i64 (l.getD k arrNone).len) ∧
      w.cell? ⟨b, off + k * 4 + 2, none⟩ = some (.int .i64 (l.getD k arrNone).kind) ∧ w.cell? ⟨b, off + k * 4 + 3, none⟩ = some (.int .i64 (l.getD k arrNone).off) := by
  obtain ⟨A', c', e, _, h⟩ := h
  injection e with e
  subst e
  obtain ⟨b, off, es, e1, h1, h2, h3⟩ := h k _ (getD_some l k arrNone hk)
  have h2 : es = arrCells (l.getD k arrNone) := h2
  subst h2
  exact ⟨b, off, e1, h1, h3 0 _ rfl, h3 1 _ rfl, h3 2 _ rfl, h3 3 _ rfl⟩
theorem op_at {w : World} {B : Nat} {A : Option Addr} {c : Nat} {l : List Opn} (h : SlRep opEnc w B (.slice A l.length c) l) (k : Nat) (hk : k < l.length) :
    ∃ b off, A = some ⟨b, off, none⟩ ∧ b < B ∧ w.cell? ⟨b, off + k * 6, none⟩ = some (.int .i64 (l.getD k opNone).kind) ∧ w.cell? ⟨b, off + k * 6 + 1, none⟩ = some (.int .i64 (l.getD k opNone).dst) ∧
      w.cell? ⟨b, off + k * 6 + 2, none⟩ = some (.int .i64 (l.getD k opNone).a) ∧ w.cell? ⟨b, off + k * 6 + 3, none⟩ = some (.int .i64 (l.getD k opNone).b) ∧
      w.cell? ⟨b, off + k * 6 + 4, none⟩ = some (.int .i64 (l.getD k opNone).c) ∧ w.cell? ⟨b, off + k * 6 + 5, none⟩ = some (.int .i64 (l.getD k opNone).imm) := by
  obtain ⟨A', c', e, _, h⟩ := h
  injection e with e
  subst e
  obtain ⟨b, off, es, e1, h1, h2, h3⟩ := h k _ (getD_some l k opNone hk)
  have h2 : es = opCells (l.getD k opNone) := h2
  subst h2
  exact ⟨b, off, e1, h1, h3 0 _ rfl, h3 1 _ rfl, h3 2 _ rfl, h3 3 _ rfl, h3 4 _ rfl, h3 5 _ rfl⟩
theorem blk_at {w : World} {B : Nat} {A : Option Addr} {c : Nat} {l : List Blk} (h : SlRep blkEnc w B (.slice A l.length c) l) (k : Nat) (hk : k < l.length) :
    ∃ b off, A = some ⟨b, off, none⟩ ∧ b < B ∧ ∃ OA oc, SlRep opEnc w B (.slice OA (l.getD k blkNone).ops.length oc) (l.getD k blkNone).ops ∧ (l.getD k blkNone).ops.length ≤ oc ∧
      w.cell? ⟨b, off + k * 5, none⟩ = some (.slice OA (l.getD k blkNone).ops.length oc) ∧ w.cell? ⟨b, off + k * 5 + 1, none⟩ = some (.int .i64 (l.getD k blkNone).term.kind) ∧
      w.cell? ⟨b, off + k * 5 + 2, none⟩ = some (.int .i64 (l.getD k blkNone).term.a) ∧ w.cell? ⟨b, off + k * 5 + 3, none⟩ = some (.int .i64 (l.getD k blkNone).term.yes) ∧
      w.cell? ⟨b, off + k * 5 + 4, none⟩ = some (.int .i64 (l.getD k blkNone).term.no) := by
  obtain ⟨A', c', e, _, h⟩ := h
  injection e with e
  subst e
  obtain ⟨b, off, es, e1, h1, h2, h3⟩ := h k _ (getD_some l k blkNone hk)
  have h2 : ∃ v, es = v :: trmCells (l.getD k blkNone).term ∧ SlRep opEnc w B v (l.getD k blkNone).ops := h2
  obtain ⟨v, rfl, hv⟩ := h2
  obtain ⟨OA, oc, rfl, hoc⟩ := hv.form
  exact ⟨b, off, e1, h1, OA, oc, hv, hoc, h3 0 _ rfl, h3 1 _ rfl, h3 2 _ rfl, h3 3 _ rfl, h3 4 _ rfl⟩
theorem opsSum_step (l : List Blk) (k : Nat) (h : k < l.length) : opsSum (l.take (k + 1)) = opsSum (l.take k) + (l.getD k blkNone).ops.length := by
  rw [take_succ_getD l k blkNone h, opsSum_append]; rfl
theorem railSum_step (l : List Arr) (k : Nat) (h : k < l.length) : railSum (l.take (k + 1)) = railSum (l.take k) + railBytes (l.getD k arrNone) := by
  rw [take_succ_getD l k arrNone h, railSum_append]
  show _ = _ + _
  congr 1
  show railBytes _ + 0 = _
  omega
theorem arrEnd_step (inp out : Int) (l : List Arr) (k : Nat) (h : k < l.length) (e : Int) (he : arrEnd inp out (l.take k) 0 = some e) : arrEnd inp out (l.take (k + 1)) 0 = arrStep inp out e (l.getD k arrNone) := by
  rw [take_succ_getD l k arrNone h, arrEnd_append, he]
  show arrEnd inp out [_] e = _
  unfold arrEnd
  cases arrStep inp out e (l.getD k arrNone) <;> rfl
theorem arrEnd_fail (inp out : Int) (l : List Arr) (k : Nat) (he : arrEnd inp out (l.take k) 0 = none) : arrEnd inp out l 0 = none := by
  have h := arrEnd_append inp out (l.take k) (l.drop k) 0
  rw [List.take_append_drop, he] at h
  exact h
theorem great_ops (p : Ir) (k : Nat) (h : 1048576 < (opsSum (p.blocks.take k) : Int)) : greatP p := by
  have := opsSum_take p.blocks k
  unfold greatP; omega
theorem great_rail (p : Ir) (k : Nat) (h : 65536 < max p.out 0 + railSum (p.arrays.take k)) : greatP p := by
  have := railSum_take p.arrays k
  unfold greatP; omega
end Go.Proofs.Ythkobddggoojlaa
namespace Go.Proofs.Ythkobddggoojlaa
open Go.RowKit
set_option linter.unusedVariables false
/-- What is known of the arrays of a program that may be. -/
theorem arrEnd_all (inp out : Int) : ∀ (l : List Arr) (en : Int), (arrEnd inp out l en).isSome = true → ∀ a ∈ l, shapedP a ∧ (a.kind = 0 ∨ a.kind = 1 ∨ a.kind = 2)
  | [], en, h, a, ha => by simp at ha
  | x :: l, en, h, a, ha => by
    unfold arrEnd at h
    cases hs : arrStep inp out en x with
    | none => rw [hs] at h; simp at h
    | some e =>
      rw [hs] at h
      rcases List.mem_cons.1 ha with rfl | ha
      · unfold arrStep at hs
        by_cases h1 : shapedP a
        · refine ⟨h1, ?_⟩
          rw [if_neg (by simpa using h1)] at hs
          by_cases k0 : a.kind = 0
          · exact .inl k0
          · rw [if_neg k0] at hs
            by_cases k1 : a.kind = 1
            · exact .inr (.inl k1)
            · rw [if_neg k1] at hs
              by_cases k2 : a.kind = 2
              · exact .inr (.inr k2)
              · rw [if_neg k2] at hs; cases hs
        · rw [if_pos (by simpa using h1)] at hs; cases hs
      · exact arrEnd_all inp out l e h a ha
theorem irErr_ok {p : Ir} (h : irErr p = 0) : ¬ greatP p ∧ mayP p := by
  unfold irErr at h
  by_cases hg : greatP p
  · rw [if_pos hg] at h; exact absurd h (by decide)
  · rw [if_neg hg] at h
    refine ⟨hg, ?_⟩
    by_cases hm : mayP p
    · exact hm
    · rw [if_neg hm] at h; exact absurd h (by decide)
end Go.Proofs.Ythkobddggoojlaa
namespace Go.Proofs.Ythkobddggoojlaa
open Go.RowKit
set_option linter.unusedVariables false
/-- Is a block a detour? -/
def tdDet (b : Blk) : Bool := b.ops.isEmpty && decide (b.term.kind = 1)
def tdAt (l : List Blk) (k : Int) : Blk := l.getD k.toNat blkNone
/-- Does a way end here? -/
def tdStop (l : List Blk) (k : Int) : Bool := decide (k = -1) || !tdDet (tdAt l k)
def tdNext (l : List Blk) (k : Int) : Int := (tdAt l k).term.yes
def tdStep (l : List Blk) (k : Int) : Int := if tdStop l k = true then k else tdNext l k
/-- Where a way is behind n steps. -/
def tdPath (l : List Blk) : Nat → Int → Int
  | 0, k => k
  | n + 1, k => tdStep l (tdPath l n k)
def tdLeads (l : List Blk) (k : Int) : Int := if tdStop l (tdPath l l.length k) = true then tdPath l l.length k else k
theorem tdPath_succ (l : List Blk) (n : Nat) (k : Int) : tdPath l (n + 1) k = tdStep l (tdPath l n k) := rfl
theorem tdPath_add (l : List Blk) (m : Nat) (k : Int) : ∀ n, tdPath l (m + n) k = tdPath l n (tdPath l m k)
  | 0 => rfl
  | n + 1 => by
    show tdStep l (tdPath l (m + n) k) = tdStep l (tdPath l n (tdPath l m k))
    rw [tdPath_add l m k n]
theorem tdStep_stop {l : List Blk} {k : Int} (h : tdStop l k = true) : tdStep l k = k := by unfold tdStep; rw [if_pos h]
theorem tdStep_go {l : List Blk} {k : Int} (h : tdStop l k = false) : tdStep l k = tdNext l k := by unfold tdStep; rw [h]; rfl
theorem tdPath_fix {l : List Blk} {k : Int} (h : tdStop l k = true) : ∀ n, tdPath l n k = k
  | 0 => rfl
  | n + 1 => by rw [tdPath_succ, tdPath_fix h n, tdStep_stop h]
theorem tdPath_stay {l : List Blk} {k : Int} {m n : Nat} (h : tdStop l (tdPath l m k) = true) (hn : m ≤ n) : tdPath l n k = tdPath l m k := by
  obtain ⟨d, rfl⟩ := Nat.exists_eq_add_of_le hn
  rw [tdPath_add, tdPath_fix h]
/-- A way that comes back never ends. -/
theorem tdPath_ring {l : List Blk} {k : Int} {i j : Nat} (hij : i < j) (he : tdPath l j k = tdPath l i k) (hs : tdStop l (tdPath l j k) = false) (m : Nat) : tdStop l (tdPath l m k) = false := by
  cases hm : tdStop l (tdPath l m k) with
  | false => rfl
  | true =>
    exfalso
    obtain ⟨d, rfl⟩ := Nat.exists_eq_add_of_le (Nat.le_of_lt hij)
    have hd : 0 < d := by omega
    have hr : ∀ t, tdPath l (i + t * d) k = tdPath l i k := by
      intro t
      induction t with
      | zero => simp
      | succ t ih =>
        rw [show i + (t + 1) * d = (i + t * d) + d by rw [Nat.succ_mul]; omega, tdPath_add, ih, ← tdPath_add, he]
    have h1 := hr m
    have h2 := tdPath_stay hm (show m ≤ i + m * d by have := Nat.le_mul_of_pos_right m hd; omega)
    rw [h1] at h2
    rw [← he] at h2
    rw [h2, hm] at hs
    cases hs
theorem tdLeads_stop {l : List Blk} {k : Int} {m : Nat} (hm : m ≤ l.length) (h : tdStop l (tdPath l m k) = true) : tdLeads l k = tdPath l m k := by
  unfold tdLeads
  rw [tdPath_stay h hm, if_pos h]
theorem tdLeads_ring {l : List Blk} {k : Int} (h : ∀ m, tdStop l (tdPath l m k) = false) : tdLeads l k = k := by
  unfold tdLeads
  rw [h]; rfl
/-- How many of a list of flags stand. -/
def tdTrues (s : List Bool) : Nat := s.count true
theorem tdTrues_le (s : List Bool) : tdTrues s ≤ s.length := List.count_le_length
theorem tdTrues_set : ∀ (s : List Bool) (i : Nat), i < s.length → s.getD i true = false → tdTrues (s.set i true) = tdTrues s + 1
  | [], i, h, _ => by simp at h
  | b :: s, 0, _, hb => by
    have hb : b = false := hb
    subst hb
    simp [tdTrues]
  | b :: s, i + 1, h, hb => by
    have ih := tdTrues_set s i (by simpa using h) (by simpa using hb)
    unfold tdTrues at ih ⊢
    rw [List.set_cons_succ, List.count_cons, List.count_cons, ih]
    omega
theorem tdTrues_clear : ∀ (s : List Bool) (i : Nat), i < s.length → s.getD i false = true → tdTrues (s.set i false) + 1 = tdTrues s
  | [], i, h, _ => by simp at h
  | b :: s, 0, _, hb => by
    have hb : b = true := hb
    subst hb
    simp [tdTrues]
  | b :: s, i + 1, h, hb => by
    have ih := tdTrues_clear s i (by simpa using h) (by simpa using hb)
    unfold tdTrues at ih ⊢
    rw [List.set_cons_succ, List.count_cons, List.count_cons, ← ih]
    omega
/-- What has been seen of a way, as the document's answer marks it. -/
structure TdSeen (l : List Blk) (k : Int) (j : Nat) (s : List Bool) : Prop where
  len : s.length = l.length
  num : tdTrues s = j
  mark : ∀ x, s.getD x false = true → ∃ i, i < j ∧ (tdPath l i k).toNat = x ∧ 0 ≤ tdPath l i k
  go : ∀ i, i < j → tdStop l (tdPath l i k) = false
theorem TdSeen.start (l : List Blk) (k : Int) : TdSeen l k 0 (List.replicate l.length false) := by
  refine ⟨List.length_replicate, ?_, fun x h => ?_, fun i h => by omega⟩
  · unfold tdTrues; rw [List.count_replicate]; rfl
  · exfalso
    rw [List.getD_eq_getElem?_getD, List.getElem?_replicate] at h
    split at h <;> simp at h
theorem TdSeen.le {l : List Blk} {k : Int} {j : Nat} {s : List Bool} (h : TdSeen l k j s) : j ≤ l.length := by
  have := tdTrues_le s
  rw [h.num, h.len] at this
  exact this
/-- The way ends: it is where the block leads. -/
theorem TdSeen.stop {l : List Blk} {k : Int} {j : Nat} {s : List Bool} (h : TdSeen l k j s) (hs : tdStop l (tdPath l j k) = true) : tdLeads l k = tdPath l j k := tdLeads_stop h.le hs
/-- The way comes back: it leads nowhere. -/
theorem TdSeen.ring {l : List Blk} {k : Int} {j : Nat} {s : List Bool} (h : TdSeen l k j s) (h0 : 0 ≤ tdPath l j k) (hs : tdStop l (tdPath l j k) = false) (hm : s.getD (tdPath l j k).toNat false = true) : tdLeads l k = k := by
  obtain ⟨i, hi, hx, hp⟩ := h.mark _ hm
  exact tdLeads_ring (tdPath_ring hi (by omega) hs)
theorem TdSeen.step {l : List Blk} {k : Int} {j : Nat} {s : List Bool} (h : TdSeen l k j s) (h0 : 0 ≤ tdPath l j k) (h1 : tdPath l j k < l.length) (hs : tdStop l (tdPath l j k) = false) (hm : s.getD (tdPath l j k).toNat false = false) : TdSeen l k (j + 1) (s.set (tdPath l j k).toNat true) := by
  have hl : (tdPath l j k).toNat < s.length := by rw [h.len]; omega
  refine ⟨by rw [List.length_set]; exact h.len, ?_, fun x hx => ?_, fun i hi => ?_⟩
  · rw [tdTrues_set s _ hl (by rw [List.getD_eq_getElem?_getD, List.getElem?_eq_getElem hl] at hm ⊢; exact hm), h.num]
  · by_cases e : (tdPath l j k).toNat = x
    · exact ⟨j, by omega, e, h0⟩
    · rw [List.getD_eq_getElem?_getD, List.getElem?_set_ne e, ← List.getD_eq_getElem?_getD] at hx
      obtain ⟨i, hi, h2⟩ := h.mark x hx
      exact ⟨i, by omega, h2⟩
  · by_cases e : i = j
    · subst e; exact hs
    · exact h.go i (by omega)
end Go.Proofs.Ythkobddggoojlaa
namespace Go.Proofs.Ythkobddggoojlaa
open Go.RowKit
set_option linter.unusedVariables false
def tdNam (g : Int → Int) (t : Trm) : Trm := if t.kind = 1 then ⟨1, t.a, g t.yes, t.no⟩ else if t.kind = 2 then ⟨2, t.a, g t.yes, g t.no⟩ else t
/-- The blocks that an end names. -/
def tdOne (k : Int) : List Int := if k = -1 then [] else [k]
def tdTg (t : Trm) : List Int := if t.kind = 1 then tdOne t.yes else if t.kind = 2 then tdOne t.yes ++ tdOne t.no else []
def tdLab (n : Nat) (k : Int) : Prop := -1 ≤ k ∧ k < n
def tdOkT (n : Nat) (t : Trm) : Prop := (t.kind = 1 ∧ tdLab n t.yes) ∨ (t.kind = 2 ∧ tdLab n t.yes ∧ tdLab n t.no) ∨ t.kind = 3
def TdOk (l : List Blk) : Prop := ∀ b ∈ l, tdOkT l.length b.term
theorem TdOk.at_ {l : List Blk} (h : TdOk l) (k : Nat) (hk : k < l.length) : tdOkT l.length (l.getD k blkNone).term := h _ (getD_memI l k blkNone hk)
theorem tdOne_mem {n : Nat} {k x : Int} (h : tdLab n k) (hx : x ∈ tdOne k) : 0 ≤ x ∧ x < n ∧ x = k := by
  obtain ⟨h1, h2⟩ := h
  unfold tdOne at hx
  split at hx
  · cases hx
  · obtain rfl := List.mem_singleton.1 hx
    exact ⟨by omega, h2, rfl⟩
theorem tdTg_lab {n : Nat} {t : Trm} (h : tdOkT n t) {x : Int} (hx : x ∈ tdTg t) : 0 ≤ x ∧ x < n := by
  unfold tdTg at hx
  rcases h with ⟨hk, h1⟩ | ⟨hk, h1, h2⟩ | hk
  · rw [if_pos hk] at hx
    have := tdOne_mem h1 hx
    exact ⟨this.1, this.2.1⟩
  · rw [if_neg (by omega), if_pos hk] at hx
    rcases List.mem_append.1 hx with hx | hx
    · have := tdOne_mem h1 hx; exact ⟨this.1, this.2.1⟩
    · have := tdOne_mem h2 hx; exact ⟨this.1, this.2.1⟩
  · rw [if_neg (by omega), if_neg (by omega)] at hx
    cases hx
def TdHold (S : Nat → Prop) (i : Nat) : Prop := S i
/-- There is a way from block 0. -/
def TdReach (l : List Blk) (k : Nat) : Prop := ∀ S : Nat → Prop, S 0 → (∀ (i : Nat) (x : Int), TdHold S i → x ∈ tdTg (l.getD i blkNone).term → S x.toNat) → S k
theorem TdReach.zero {l : List Blk} : TdReach l 0 := fun S h0 _ => h0
theorem TdReach.step {l : List Blk} (i : Nat) (x : Int) (h : TdReach l i) (hx : x ∈ tdTg (l.getD i blkNone).term) : TdReach l x.toNat := fun S h0 hs => hs i x (h S h0 hs) hx
def TdIn (l : List Blk) (s : List Bool) : Prop := s.length = l.length ∧ ∀ k, k < l.length → (s.getD k false = true ↔ TdReach l k)
theorem TdIn.uniq {l : List Blk} {s t : List Bool} (hs : TdIn l s) (ht : TdIn l t) : s = t := by
  refine List.ext_getElem (by rw [hs.1, ht.1]) fun k h1 h2 => ?_
  have a := hs.2 k (by rw [← hs.1]; exact h1)
  have b := ht.2 k (by rw [← ht.1]; exact h2)
  rw [List.getD_eq_getElem?_getD, List.getElem?_eq_getElem h1] at a
  rw [List.getD_eq_getElem?_getD, List.getElem?_eq_getElem h2] at b
  have e : (s[k] = true) ↔ (t[k] = true) := a.trans b.symm
  cases hx : s[k] <;> cases hy : t[k] <;> simp_all
theorem tdIn_ex (l : List Blk) : ∃ s, TdIn l s := by
  refine ⟨(List.range l.length).map (fun k => @decide (TdReach l k) (Classical.propDecidable _)), by simp, fun k hk => ?_⟩
  rw [List.getD_eq_getElem?_getD, List.getElem?_map, List.getElem?_range hk]
  simp
/-- A set of blocks from which no way leads out. -/
def TdClosed (l : List Blk) (s : List Bool) : Prop := ∀ i, s.getD i false = true → ∀ x ∈ tdTg (l.getD i blkNone).term, s.getD x.toNat false = true
theorem TdReach.closed {l : List Blk} {s : List Bool} (h0 : s.getD 0 false = true) (hc : TdClosed l s) {k : Nat} (h : TdReach l k) : s.getD k false = true := by
  exact h (fun k => s.getD k false = true) h0 (fun i x hi hx => hc i hi x hx)
theorem TdReach.lt {l : List Blk} (hl : TdOk l) (hn : 0 < l.length) {k : Nat} (h : TdReach l k) : k < l.length := by
  refine h (fun k => k < l.length) hn (fun i x hi hx => ?_)
  have := tdTg_lab (hl.at_ i hi) hx
  omega
theorem tdIn_of {l : List Blk} {s : List Bool} (hl : s.length = l.length) (h0 : s.getD 0 false = true) (hc : TdClosed l s) (hr : ∀ k, s.getD k false = true → TdReach l k) : TdIn l s :=
  ⟨hl, fun k _ => ⟨hr k, fun h => h.closed h0 hc⟩⟩
theorem flag_lt {s : List Bool} {k : Nat} (h : s.getD k false = true) : k < s.length := by
  rcases Nat.lt_or_ge k s.length with h1 | h1
  · exact h1
  · rw [List.getD_eq_getElem?_getD, List.getElem?_eq_none h1] at h; cases h
theorem TdIn.closed {l : List Blk} {s : List Bool} (hl : TdOk l) (hn : 0 < l.length) (h : TdIn l s) : TdClosed l s := fun i hi x hx => by
  have hil : i < l.length := by have := flag_lt hi; rw [h.1] at this; exact this
  have hx2 := tdTg_lab (hl.at_ i hil) hx
  exact (h.2 x.toNat (by omega)).2 (TdReach.step i x ((h.2 i hil).1 hi) hx)
theorem TdIn.zero {l : List Blk} {s : List Bool} (hn : 0 < l.length) (h : TdIn l s) : s.getD 0 false = true := (h.2 0 hn).2 TdReach.zero
/-- Sums. -/
def tdSum (f : Nat → Nat) : Nat → Nat
  | 0 => 0
  | n + 1 => tdSum f n + f n
theorem tdSum_congr {f g : Nat → Nat} : ∀ n, (∀ i, i < n → f i = g i) → tdSum f n = tdSum g n
  | 0, _ => rfl
  | n + 1, h => by
    show tdSum f n + f n = tdSum g n + g n
    rw [tdSum_congr n (fun i hi => h i (by omega)), h n (by omega)]
theorem tdSum_pull (f : Nat → Nat) (k : Nat) : ∀ n, k < n → tdSum f n = tdSum (fun i => if i = k then 0 else f i) n + f k
  | 0, h => by omega
  | n + 1, h => by
    show tdSum f n + f n = tdSum (fun i => if i = k then 0 else f i) n + (if n = k then 0 else f n) + f k
    by_cases e : n = k
    · subst e
      rw [if_pos rfl]
      have := tdSum_congr (f := f) (g := fun i => if i = n then 0 else f i) n (fun i hi => by show f i = if i = n then 0 else f i; rw [if_neg (by omega)])
      omega
    · rw [if_neg e, tdSum_pull f k n (by omega)]; omega
theorem tdSum_two {f g : Nat → Nat} {k c n : Nat} (hk : k < n) (hc : c < n) (hkc : k ≠ c) (he : ∀ i, i ≠ k → i ≠ c → f i = g i) (hs : f k + f c = g k + g c) : tdSum f n = tdSum g n := by
  have a1 := tdSum_pull f k n hk
  have a2 := tdSum_pull (fun i => if i = k then 0 else f i) c n hc
  have b1 := tdSum_pull g k n hk
  have b2 := tdSum_pull (fun i => if i = k then 0 else g i) c n hc
  have e : tdSum (fun i => if i = c then 0 else if i = k then 0 else f i) n = tdSum (fun i => if i = c then 0 else if i = k then 0 else g i) n := tdSum_congr n fun i _ => by
    by_cases h1 : i = c
    · rw [if_pos h1, if_pos h1]
    · rw [if_neg h1, if_neg h1]
      by_cases h2 : i = k
      · rw [if_pos h2, if_pos h2]
      · rw [if_neg h2, if_neg h2]; exact he i h2 h1
  simp only [if_neg (Ne.symm hkc)] at a2 b2
  omega
theorem tdSum_le {f : Nat → Nat} {k n : Nat} (hk : k < n) : f k ≤ tdSum f n := by rw [tdSum_pull f k n hk]; omega
theorem tdSum_one {f : Nat → Nat} {k n : Nat} (hk : k < n) (h1 : 0 < f k) (hs : tdSum f n = 1) : f k = 1 ∧ ∀ i, i < n → i ≠ k → f i = 0 := by
  have h2 := tdSum_le (f := f) hk
  refine ⟨by omega, fun i hi hik => ?_⟩
  have a := tdSum_pull f k n hk
  have b := tdSum_le (f := fun i => if i = k then 0 else f i) hi
  simp only [if_neg hik] at b
  omega
/-- How often block x is named by those that are there. -/
def tdNm (l : List Blk) (s : List Bool) (x : Int) (i : Nat) : Nat := if s.getD i false = true then (tdTg (l.getD i blkNone).term).count x else 0
def tdCnt (l : List Blk) (s : List Bool) (x : Int) : Nat := tdSum (tdNm l s x) l.length
/-- Is the block to which k's end jumps put behind it? -/
def tdTo (l : List Blk) (k : Nat) : Int := (l.getD k blkNone).term.yes
def tdCan (cnt : Int → Nat) (l : List Blk) (k : Nat) : Bool := decide ((l.getD k blkNone).term.kind = 1) && (!decide (tdTo l k = k) && (!decide (tdTo l k = 0) && (!decide (tdTo l k = -1) && decide (cnt (tdTo l k) = 1))))
def tdPut (l : List Blk) (k : Nat) : List Blk := l.set k ⟨(l.getD k blkNone).ops ++ (l.getD (tdTo l k).toNat blkNone).ops, (l.getD (tdTo l k).toNat blkNone).term⟩
structure TdInv (cnt : Int → Nat) (l : List Blk) (s : List Bool) : Prop where
  len : s.length = l.length
  zero : s.getD 0 false = true
  ok : TdOk l
  closed : TdClosed l s
  cnt : ∀ x, s.getD x false = true → tdCnt l s x = cnt x
theorem tdCan_of {cnt : Int → Nat} {l : List Blk} {k : Nat} (h : tdCan cnt l k = true) : (l.getD k blkNone).term.kind = 1 ∧ tdTo l k ≠ k ∧ tdTo l k ≠ 0 ∧ tdTo l k ≠ -1 ∧ cnt (tdTo l k) = 1 := by
  unfold tdCan at h
  simpa using h
theorem tdTg_jump {l : List Blk} {k : Nat} (h : (l.getD k blkNone).term.kind = 1) (h1 : tdTo l k ≠ -1) : tdTg (l.getD k blkNone).term = [tdTo l k] := by
  unfold tdTg tdOne
  rw [if_pos h]
  unfold tdTo at h1 ⊢
  rw [if_neg h1]
theorem getD_set_self' {T : Type} (l : List T) (i : Nat) (v d : T) (h : i < l.length) : (l.set i v).getD i d = v := by
  rw [List.getD_eq_getElem?_getD, List.getElem?_set_self h]; rfl
theorem getD_set_ne' {T : Type} (l : List T) (i j : Nat) (v d : T) (h : i ≠ j) : (l.set i v).getD j d = l.getD j d := by
  rw [List.getD_eq_getElem?_getD, List.getElem?_set_ne h, ← List.getD_eq_getElem?_getD]
theorem getD_setB {T : Type} (l : List T) (k i : Nat) (v d : T) (hk : k < l.length) : (l.set k v).getD i d = if i = k then v else l.getD i d := by
  by_cases e : i = k
  · subst e; rw [if_pos rfl]; exact getD_set_self' l i v d hk
  · rw [if_neg e]; exact getD_set_ne' l k i v d (fun h => e h.symm)
end Go.Proofs.Ythkobddggoojlaa
namespace Go.Proofs.Ythkobddggoojlaa
open Go.RowKit
set_option linter.unusedVariables false
theorem TdInv.only {cnt : Int → Nat} {l : List Blk} {s : List Bool} {k : Nat} (h : TdInv cnt l s) (hk : s.getD k false = true) (hc : tdCan cnt l k = true) :
    ∃ c : Nat, tdTo l k = (c : Int) ∧ c ≠ k ∧ c ≠ 0 ∧ c < l.length ∧ k < l.length ∧ s.getD c false = true ∧ tdTg (l.getD k blkNone).term = [(c : Int)] ∧ ∀ i, s.getD i false = true → i ≠ k → (c : Int) ∉ tdTg (l.getD i blkNone).term := by
  obtain ⟨h1, h2, h3, h4, h5⟩ := tdCan_of hc
  have hkl : k < l.length := by have := flag_lt hk; rw [h.len] at this; exact this
  have htg := tdTg_jump h1 h4
  have hmem : tdTo l k ∈ tdTg (l.getD k blkNone).term := by rw [htg]; simp
  have hlab := tdTg_lab (h.ok.at_ k hkl) hmem
  have hin := h.closed k hk _ hmem
  obtain ⟨c, e⟩ : ∃ c : Nat, tdTo l k = (c : Int) := ⟨(tdTo l k).toNat, by omega⟩
  rw [e] at h2 h3 h5 htg hin hlab
  simp only [Int.toNat_natCast] at hin
  have hs : tdSum (tdNm l s (c : Int)) l.length = 1 := (h.cnt c hin).trans h5
  have h1k : tdNm l s (c : Int) k = 1 := by unfold tdNm; rw [if_pos hk, htg]; simp
  obtain ⟨_, hno⟩ := tdSum_one hkl (by omega) hs
  refine ⟨c, e, by omega, by omega, by omega, hkl, hin, htg, fun i hi hik hm => ?_⟩
  have hil : i < l.length := by have := flag_lt hi; rw [h.len] at this; exact this
  have h0 := hno i hil hik
  unfold tdNm at h0
  rw [if_pos hi] at h0
  exact (List.count_eq_zero.1 h0) hm
theorem tdPut_at {l : List Blk} {k : Nat} (hk : k < l.length) (i : Nat) : (tdPut l k).getD i blkNone = if i = k then ⟨(l.getD k blkNone).ops ++ (l.getD (tdTo l k).toNat blkNone).ops, (l.getD (tdTo l k).toNat blkNone).term⟩ else l.getD i blkNone := getD_setB l k i _ blkNone hk
theorem tdPut_len (l : List Blk) (k : Nat) : (tdPut l k).length = l.length := List.length_set
theorem flag_set {s : List Bool} {c i : Nat} (hc : c < s.length) : (s.set c false).getD i false = true ↔ i ≠ c ∧ s.getD i false = true := by
  rw [getD_setB s c i false false hc]
  by_cases e : i = c
  · rw [if_pos e]; simp [e]
  · rw [if_neg e]; simp [e]
theorem TdInv.put {cnt : Int → Nat} {l : List Blk} {s : List Bool} {k : Nat} (h : TdInv cnt l s) (hk : s.getD k false = true) (hc : tdCan cnt l k = true) : TdInv cnt (tdPut l k) (s.set (tdTo l k).toNat false) := by
  obtain ⟨c, e, hck, hc0, hcl, hkl, hcs, htg, hno⟩ := h.only hk hc
  have hat := tdPut_at (l := l) hkl
  rw [e, Int.toNat_natCast] at hat ⊢
  have hcl2 : c < s.length := by rw [h.len]; exact hcl
  have hcc : (c : Int) ∉ tdTg (l.getD c blkNone).term := hno c hcs hck
  refine ⟨by rw [List.length_set, tdPut_len]; exact h.len, (flag_set hcl2).2 ⟨fun h => hc0 h.symm, h.zero⟩, ?_, ?_, ?_⟩
  · intro b hb
    rw [tdPut_len]
    unfold tdPut at hb
    rcases List.mem_or_eq_of_mem_set hb with hb | rfl
    · exact h.ok b hb
    · rw [e]; exact h.ok.at_ c hcl
  · intro i hi x hx
    obtain ⟨hic, his⟩ := (flag_set hcl2).1 hi
    rw [hat] at hx
    have key : ∀ j, s.getD j false = true → x ∈ tdTg (l.getD j blkNone).term → (c : Int) ∉ tdTg (l.getD j blkNone).term → (s.set c false).getD x.toNat false = true := fun j hj hxj hcj => by
      have hjl : j < l.length := by have := flag_lt hj; rw [h.len] at this; exact this
      have hlab := tdTg_lab (h.ok.at_ j hjl) hxj
      refine (flag_set hcl2).2 ⟨fun he => hcj ?_, h.closed j hj x hxj⟩
      have : x = (c : Int) := by omega
      rw [← this]; exact hxj
    by_cases hik : i = k
    · rw [if_pos hik] at hx
      exact key c hcs hx hcc
    · rw [if_neg hik] at hx
      exact key i his hx (hno i his hik)
  · intro x hx
    obtain ⟨hxc, hxs⟩ := (flag_set hcl2).1 hx
    rw [← h.cnt x hxs]
    unfold tdCnt
    rw [tdPut_len]
    refine (tdSum_two (k := k) (c := c) hkl hcl (fun h => hck h.symm) (fun i hik hic => ?_) ?_).symm
    · unfold tdNm
      rw [hat, if_neg hik, getD_setB s c i false false hcl2, if_neg hic]
    · unfold tdNm
      have hx0 : List.count (x : Int) [(c : Int)] = 0 := by
        rw [List.count_eq_zero]; simp; omega
      have hkc : ¬ k = c := fun h => hck h.symm
      rw [hat, hat, if_pos rfl, if_neg hck, getD_setB s c k false false hcl2, getD_setB s c c false false hcl2, htg, hx0]
      simp only [if_neg hkc, hk, hcs, if_true, eq_self, Bool.false_eq_true, if_false, Nat.zero_add, Nat.add_zero]
/-- All that may be put behind block k. -/
def tdGo (cnt : Int → Nat) : Nat → List Blk × List Bool → Nat → List Blk × List Bool
  | 0, z, _ => z
  | f + 1, z, k => if tdCan cnt z.1 k = true then tdGo cnt f (tdPut z.1 k, z.2.set (tdTo z.1 k).toNat false) k else z
def tdJoinTo (cnt : Int → Nat) (z : List Blk × List Bool) : Nat → List Blk × List Bool
  | 0 => z
  | m + 1 => if (tdJoinTo cnt z m).2.getD m false = true then tdGo cnt (tdTrues (tdJoinTo cnt z m).2) (tdJoinTo cnt z m) m else tdJoinTo cnt z m
theorem tdGo_end {cnt : Int → Nat} {z : List Blk × List Bool} {k : Nat} (h : tdCan cnt z.1 k = false) : ∀ f, tdGo cnt f z k = z
  | 0 => rfl
  | f + 1 => by unfold tdGo; rw [h]; rfl
theorem TdInv.trues {cnt : Int → Nat} {l : List Blk} {s : List Bool} {k : Nat} (h : TdInv cnt l s) (hk : s.getD k false = true) (hc : tdCan cnt l k = true) : tdTrues s = tdTrues (s.set (tdTo l k).toNat false) + 1 := by
  obtain ⟨c, e, _, _, hcl, _, hcs, _, _⟩ := h.only hk hc
  rw [e, Int.toNat_natCast]
  exact (tdTrues_clear s c (by rw [h.len]; exact hcl) hcs).symm
theorem tdGo_step {cnt : Int → Nat} {l : List Blk} {s : List Bool} {k : Nat} (h : TdInv cnt l s) (hk : s.getD k false = true) (hc : tdCan cnt l k = true) :
    tdGo cnt (tdTrues s) (l, s) k = tdGo cnt (tdTrues (s.set (tdTo l k).toNat false)) (tdPut l k, s.set (tdTo l k).toNat false) k := by
  rw [h.trues hk hc]
  show (if tdCan cnt l k = true then _ else _) = _
  rw [if_pos hc]
theorem TdInv.keep {cnt : Int → Nat} {l : List Blk} {s : List Bool} {k : Nat} (h : TdInv cnt l s) (hk : s.getD k false = true) (hc : tdCan cnt l k = true) : (s.set (tdTo l k).toNat false).getD k false = true := by
  obtain ⟨c, e, hck, _, hcl, _, _, _, _⟩ := h.only hk hc
  rw [e, Int.toNat_natCast]
  exact (flag_set (by rw [h.len]; exact hcl)).2 ⟨fun h => hck h.symm, hk⟩
/-- What holds of the blocks and stays while a block is put behind another. -/
theorem tdGo_all {cnt : Int → Nat} {k : Nat} (Q : List Blk × List Bool → Prop) (hQ : ∀ l s, TdInv cnt l s → s.getD k false = true → tdCan cnt l k = true → Q (l, s) → Q (tdPut l k, s.set (tdTo l k).toNat false)) :
    ∀ (f : Nat) (l : List Blk) (s : List Bool), f = tdTrues s → TdInv cnt l s → s.getD k false = true → Q (l, s) →
      TdInv cnt (tdGo cnt f (l, s) k).1 (tdGo cnt f (l, s) k).2 ∧ (tdGo cnt f (l, s) k).2.getD k false = true ∧ tdCan cnt (tdGo cnt f (l, s) k).1 k = false ∧ Q (tdGo cnt f (l, s) k)
  | 0, l, s, hf, hi, hk, _ => by
    exfalso
    have := tdTrues_clear s k (flag_lt hk) hk
    omega
  | f + 1, l, s, hf, hi, hk, hq => by
    cases hc : tdCan cnt l k with
    | false =>
      rw [tdGo_end (z := (l, s)) hc]
      exact ⟨hi, hk, hc, hq⟩
    | true =>
      have e : tdGo cnt (f + 1) (l, s) k = tdGo cnt f (tdPut l k, s.set (tdTo l k).toNat false) k := by
        show (if tdCan cnt l k = true then _ else _) = _
        rw [if_pos hc]
      rw [e]
      have ht := hi.trues hk hc
      exact tdGo_all Q hQ f _ _ (by omega) (hi.put hk hc) (hi.keep hk hc) (hQ l s hi hk hc hq)
theorem tdJoin_all {cnt : Int → Nat} (Q : Nat → List Blk × List Bool → Prop) (l : List Blk) (s : List Bool) (hi : TdInv cnt l s) (h0 : Q 0 (l, s))
    (hs : ∀ m z, Q m z → z.2.getD m false = false → Q (m + 1) z)
    (hp : ∀ m l s, TdInv cnt l s → s.getD m false = true → tdCan cnt l m = true → Q m (l, s) → Q m (tdPut l m, s.set (tdTo l m).toNat false))
    (he : ∀ m l s, TdInv cnt l s → s.getD m false = true → tdCan cnt l m = false → Q m (l, s) → Q (m + 1) (l, s)) :
    ∀ m, TdInv cnt (tdJoinTo cnt (l, s) m).1 (tdJoinTo cnt (l, s) m).2 ∧ Q m (tdJoinTo cnt (l, s) m)
  | 0 => ⟨hi, h0⟩
  | m + 1 => by
    obtain ⟨h1, h2⟩ := tdJoin_all Q l s hi h0 hs hp he m
    show TdInv cnt (if (tdJoinTo cnt (l, s) m).2.getD m false = true then tdGo cnt (tdTrues (tdJoinTo cnt (l, s) m).2) (tdJoinTo cnt (l, s) m) m else tdJoinTo cnt (l, s) m).1 (if (tdJoinTo cnt (l, s) m).2.getD m false = true then tdGo cnt (tdTrues (tdJoinTo cnt (l, s) m).2) (tdJoinTo cnt (l, s) m) m else tdJoinTo cnt (l, s) m).2 ∧ Q (m + 1) (if (tdJoinTo cnt (l, s) m).2.getD m false = true then tdGo cnt (tdTrues (tdJoinTo cnt (l, s) m).2) (tdJoinTo cnt (l, s) m) m else tdJoinTo cnt (l, s) m)
    generalize tdJoinTo cnt (l, s) m = z at *
    obtain ⟨l', s'⟩ := z
    by_cases hm : s'.getD m false = true
    · simp only [if_pos hm]
      obtain ⟨a, b, c, d⟩ := tdGo_all (cnt := cnt) (k := m) (Q m) (fun l s => hp m l s) (tdTrues s') l' s' rfl h1 hm h2
      exact ⟨a, he m _ _ a b c d⟩
    · simp only [if_neg hm]
      exact ⟨h1, hs m _ h2 (by simpa using hm)⟩
/-- The blocks that are there, numbered anew. -/
def tdRank (s : List Bool) (k : Nat) : Nat := (s.take k).count true
def tdNum (s : List Bool) (k : Int) : Int := if k = -1 then -1 else (tdRank s k.toNat : Int)
def tdOut (l : List Blk) (s : List Bool) : Nat → List Blk
  | 0 => []
  | m + 1 => tdOut l s m ++ (if s.getD m false = true then [⟨(l.getD m blkNone).ops, tdNam (tdNum s) (l.getD m blkNone).term⟩] else [])
def tdStr (l : List Blk) : List Blk := l.map fun b => ⟨b.ops, tdNam (tdLeads l) b.term⟩
def tdZ (p : Ir) (s : List Bool) : List Blk × List Bool := tdJoinTo (tdCnt (tdStr p.blocks) s) (tdStr p.blocks, s) p.blocks.length
def tdIr (p : Ir) (s : List Bool) : Ir := ⟨p.temps, p.arrays, tdOut (tdZ p s).1 (tdZ p s).2 p.blocks.length, p.inp, p.out⟩
theorem tdRank_succ (s : List Bool) (k : Nat) (hk : k < s.length) : tdRank s (k + 1) = tdRank s k + (if s.getD k false = true then 1 else 0) := by
  unfold tdRank
  rw [take_succ_getD s k false hk, List.count_append]
  cases s.getD k false <;> simp
theorem tdRank_len (s : List Bool) : tdRank s s.length = tdTrues s := by unfold tdRank tdTrues; rw [List.take_length]
theorem tdOut_len (l : List Blk) (s : List Bool) : ∀ m, m ≤ s.length → (tdOut l s m).length = tdRank s m
  | 0, _ => rfl
  | m + 1, h => by
    rw [tdRank_succ s m (by omega)]
    show (tdOut l s m ++ _).length = _
    rw [List.length_append, tdOut_len l s m (by omega)]
    split <;> rfl
end Go.Proofs.Ythkobddggoojlaa
