/- Elements of a program of blocks, as cells; what its prefixes tell. Plain facts. -/
import Derived.Test.YtiaimceefkdchaaIrSpec
namespace Go.Proofs.Ytiaimceefkdchaa
open Go.RowKit
set_option linter.unusedVariables false
def trmNone : Trm := ⟨0, 0, 0, 0⟩
def blkNone : Blk := ⟨[], trmNone⟩
def opNone : Opn := ⟨0, 0, 0, 0, 0, 0⟩
theorem getD_some {T : Type} (l : List T) (k : Nat) (d : T) (h : k < l.length) : l[k]? = some (l.getD k d) := by
  rw [List.getD_eq_getElem?_getD, List.getElem?_eq_getElem h]; rfl
theorem getD_memI {T : Type} (l : List T) (k : Nat) (d : T) (h : k < l.length) : l.getD k d ∈ l := by
  rw [List.getD_eq_getElem?_getD, List.getElem?_eq_getElem h]; exact List.getElem_mem h
theorem take_succ_getD {T : Type} (l : List T) (k : Nat) (d : T) (h : k < l.length) : l.take (k + 1) = l.take k ++ [l.getD k d] := by
  rw [List.take_succ_eq_append_getElem h, List.getD_eq_getElem?_getD, List.getElem?_eq_getElem h]; rfl
/-- A slice that reads as a list is a slice of that length. -/
theorem SlRep.form {T : Type} {E : Enc T} {w : World} {B : Nat} {v : Value} {l : List T} (h : SlRep E w B v l) : ∃ A c, v = .slice A l.length c ∧ l.length ≤ c := by
  obtain ⟨A, c, e, hc, _⟩ := h
  exact ⟨A, c, e, hc⟩
theorem arr_at {w : World} {B : Nat} {A : Option Addr} {c : Nat} {l : List Arr} (h : SlRep arrEnc w B (.slice A l.length c) l) (k : Nat) (hk : k < l.length) :
    ∃ b off, A = some ⟨b, off, none⟩ ∧ b < B ∧ w.cell? ⟨b, off + k * 4, none⟩ = some (.int .i64 (l.getD k arrNone).elem) ∧ w.cell? ⟨b, off + k * 4 + 1, none⟩ = some (.int .i64 (l.getD k arrNone).len) ∧
      w.cell? ⟨b, off + k * 4 + 2, none⟩ = some (.int .i64 (l.getD k arrNone).kind) ∧ w.cell? ⟨b, off + k * 4 + 3, none⟩ = some (.int .i64 (l.getD k arrNone).off) := by
  obtain ⟨A', c', e, _, h⟩ := h
  injection e with e
  subst e
  obtain ⟨b, off, es, e1, h1, h2, h3⟩ := h k _ (getD_some l k arrNone hk)
  have h2 : es = arrCells (l.getD k arrNone) := h2
  subst h2
  exact ⟨b, off, e1, h1, h3 0 _ rfl, h3 1 _ rfl, h3 2 _ rfl, h3 3 _ rfl⟩
theorem op_at {w : World} {B : Nat} {A : Option Addr} {c : Nat} {l : List Opn} (h : SlRep opEnc w B (.slice A l.length c) l) (k : Nat) (hk : k < l.length) :
    ∃ b off, A = some ⟨b, off, none⟩ ∧ b < B ∧ w.cell? ⟨b, off + k * 6, none⟩ = some (.int .i64 (l.getD k opNone).kind) ∧ w.cell? ⟨b, off + k * 6 + 1, none⟩ = some (.int .i64 (l.getD k opNone).dst) ∧
      w.cell? ⟨b, off + k * 6 + 2, none⟩ = some (.int .i64 (l.getD k opNone).a) ∧ w.cell? ⟨b, off + k * 6 + 3, none⟩ = some (.int .i64 (l.getD k opNone).b) ∧
      w.cell? ⟨b, off + k * 6 + 4, none⟩ = some (.int .i64 (l.getD k opNone).c) ∧ w.cell? ⟨b, off + k * 6 + 5, none⟩ = some (.int .i64 (l.getD k opNone).imm) := by
  obtain ⟨A', c', e, _, h⟩ := h
  injection e with e
  subst e
  obtain ⟨b, off, es, e1, h1, h2, h3⟩ := h k _ (getD_some l k opNone hk)
  have h2 : es = opCells (l.getD k opNone) := h2
  subst h2
  exact ⟨b, off, e1, h1, h3 0 _ rfl, h3 1 _ rfl, h3 2 _ rfl, h3 3 _ rfl, h3 4 _ rfl, h3 5 _ rfl⟩
theorem blk_at {w : World} {B : Nat} {A : Option Addr} {c : Nat} {l : List Blk} (h : SlRep blkEnc w B (.slice A l.length c) l) (k : Nat) (hk : k < l.length) :
    ∃ b off, A = some ⟨b, off, none⟩ ∧ b < B ∧ ∃ OA oc, SlRep opEnc w B (.slice OA (l.getD k blkNone).ops.length oc) (l.getD k blkNone).ops ∧ (l.getD k blkNone).ops.length ≤ oc ∧
      w.cell? ⟨b, off + k * 5, none⟩ = some (.slice OA (l.getD k blkNone).ops.length oc) ∧ w.cell? ⟨b, off + k * 5 + 1, none⟩ = some (.int .i64 (l.getD k blkNone).term.kind) ∧
      w.cell? ⟨b, off + k * 5 + 2, none⟩ = some (.int .i64 (l.getD k blkNone).term.a) ∧ w.cell? ⟨b, off + k * 5 + 3, none⟩ = some (.int .i64 (l.getD k blkNone).term.yes) ∧
      w.cell? ⟨b, off + k * 5 + 4, none⟩ = some (.int .i64 (l.getD k blkNone).term.no) := by
  obtain ⟨A', c', e, _, h⟩ := h
  injection e with e
  subst e
  obtain ⟨b, off, es, e1, h1, h2, h3⟩ := h k _ (getD_some l k blkNone hk)
  have h2 : ∃ v, es = v :: trmCells (l.getD k blkNone).term ∧ SlRep opEnc w B v (l.getD k blkNone).ops := h2
  obtain ⟨v, rfl, hv⟩ := h2
  obtain ⟨OA, oc, rfl, hoc⟩ := hv.form
  exact ⟨b, off, e1, h1, OA, oc, hv, hoc, h3 0 _ rfl, h3 1 _ rfl, h3 2 _ rfl, h3 3 _ rfl, h3 4 _ rfl⟩
theorem opsSum_step (l : List Blk) (k : Nat) (h : k < l.length) : opsSum (l.take (k + 1)) = opsSum (l.take k) + (l.getD k blkNone).ops.length := by
  rw [take_succ_getD l k blkNone h, opsSum_append]; rfl
theorem railSum_step (l : List Arr) (k : Nat) (h : k < l.length) : railSum (l.take (k + 1)) = railSum (l.take k) + railBytes (l.getD k arrNone) := by
  rw [take_succ_getD l k arrNone h, railSum_append]
  show _ = _ + _
  congr 1
  show railBytes _ + 0 = _
  omega
theorem arrEnd_step (inp out : Int) (l : List Arr) (k : Nat) (h : k < l.length) (e : Int) (he : arrEnd inp out (l.take k) 0 = some e) : arrEnd inp out (l.take (k + 1)) 0 = arrStep inp out e (l.getD k arrNone) := by
  rw [take_succ_getD l k arrNone h, arrEnd_append, he]
  show arrEnd inp out [_] e = _
  unfold arrEnd
  cases arrStep inp out e (l.getD k arrNone) <;> rfl
theorem arrEnd_fail (inp out : Int) (l : List Arr) (k : Nat) (he : arrEnd inp out (l.take k) 0 = none) : arrEnd inp out l 0 = none := by
  have h := arrEnd_append inp out (l.take k) (l.drop k) 0
  rw [List.take_append_drop, he] at h
  exact h
theorem great_ops (p : Ir) (k : Nat) (h : 1048576 < (opsSum (p.blocks.take k) : Int)) : greatP p := by
  have := opsSum_take p.blocks k
  unfold greatP; omega
theorem great_rail (p : Ir) (k : Nat) (h : 65536 < max p.out 0 + railSum (p.arrays.take k)) : greatP p := by
  have := railSum_take p.arrays k
  unfold greatP; omega
end Go.Proofs.Ytiaimceefkdchaa
