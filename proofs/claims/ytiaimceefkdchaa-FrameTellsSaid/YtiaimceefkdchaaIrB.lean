/- Contracts of ir's checker: its parts. No condition but those that each theorem names. -/
import Derived.Test.YtiaimceefkdchaaIrA
namespace Go.Proofs.Ytiaimceefkdchaa
open Go.RowKit
theorem run_first3 (g n : Nat) (h : n ≤ 3) (W : World) : (Instr.slice 26 (.slice (some ⟨g, 0, none⟩) 3 3) none (some (.int .i64 (n : Int))) none).run Try.prog W = .ok (.slice (some ⟨g, 0, none⟩) n 3) W := by
  have q2 : (n : Int) ≤ 3 := by omega
  simp [go_sem, q2]
theorem fSrc_le (k : Int) : fSrc k ≤ 3 := by unfold fSrc; split <;> (try split) <;> (try split) <;> omega
theorem alloc_new2 (w : World) (x y : Obj) : ((w.alloc x).alloc y).heap[w.heap.size + 1]? = some y := by
  have h := heap_alloc_new (w.alloc x) y
  rwa [show (w.alloc x).heap.size = w.heap.size + 1 by simp] at h
def opVal (o : Opn) : Value := .agg #[.int .i64 o.kind, .int .i64 o.dst, .int .i64 o.a, .int .i64 o.b, .int .i64 o.c, .int .i64 o.imm]
theorem run_fld0 (f1 : Bool) (f2 f3 : Int) (f4 : Bool) (W : World) : (Instr.field 73 (.agg #[.bool f1, .int .i64 f2, .int .i64 0, .int .i64 f3, .bool f4]) 0).run Try.prog W = .ok (.bool f1) W := by kernel_rfl
theorem run_fld1 (f1 : Bool) (f2 f3 : Int) (f4 : Bool) (W : World) : (Instr.field 73 (.agg #[.bool f1, .int .i64 f2, .int .i64 0, .int .i64 f3, .bool f4]) 1).run Try.prog W = .ok (.int .i64 f2) W := by kernel_rfl
set_option maxRecDepth 100000 in
theorem ir_Makes (o : Opn) (w : World) : Calls Try.prog 54 #[opVal o] w fun e w' => e = .returned (.bool (fDst o.kind)) ∧ Below w.heap.size w w' := by
  obtain ⟨k, d, a, b, c, i⟩ := o
  have HF := Lib.hid (fun W => ir_formOf k W)
  unfold formVal at HF
  unfold opVal
  simp only
  generalize fDst k = f1 at *
  generalize fMost k = f3 at *
  generalize fOk k = f4 at *
  have hfl := run_fld0 f1 (fSrc k : Nat) f3 f4
  go_enter Try.func54, Try.ntmps54
  go_wp2_with fail
  refine (HF.out _).mono ?_
  rintro e w2 ⟨rfl, hb⟩
  have HB := Lib.hid (bch (bnew _ _) hb)
  clear hb
  go_wp2_with fail
  go_ret
  exact ⟨rfl, HB.out⟩
set_option maxRecDepth 100000 in
theorem ir_Uses (o : Opn) (w : World) : Calls Try.prog 33 #[opVal o] w fun e w' => ∃ g, e = .returned (.slice (some ⟨g, 0, none⟩) (fSrc o.kind) 3) ∧ w'.heap[g]? = some (.cells #[.int .i64 o.a, .int .i64 o.b, .int .i64 o.c] 3 (0, 0)) ∧ w.heap.size ≤ g ∧ Below w.heap.size w w' := by
  obtain ⟨k, d, a, b, c, i⟩ := o
  have HF := Lib.hid (fun W => ir_formOf k W)
  unfold formVal at HF
  unfold opVal
  simp only
  have hcut := fun g W => run_first3 g (fSrc k) (fSrc_le k) W
  generalize fDst k = f1 at *
  generalize fMost k = f3 at *
  generalize fOk k = f4 at *
  generalize fSrc k = f2 at *
  have hfl := run_fld1 f1 (f2 : Nat) f3 f4
  go_enter Try.func33, Try.ntmps33
  go_wp2_with fail
  refine (HF.out _).mono ?_
  rintro e w2 ⟨rfl, hb⟩
  have hx := (hb.block (w.heap.size + 1) (by simp)).trans (alloc_new2 w _ _)
  have HX := Lib.hid hx
  have HB := Lib.hid (bch (bal (bnew _ _) _) hb)
  clear hb hx
  go_wp2_with fail
  go_ret
  exact ⟨w.heap.size + 1, rfl, HX.out, by omega, HB.out⟩
def ckCells (p : Ir) (av bv : Value) (en : Int) : Array Value := #[.int .i64 p.temps, av, bv, .int .i64 p.inp, .int .i64 p.out, .int .i64 en]
def CkAt (w : World) (M : Nat) (p : Ir) (av bv : Value) (en : Int) : Prop := w.heap[M]? = some (.cells (ckCells p av bv en) 87 (0, 0))
theorem CkAt.below {w w' : World} {M : Nat} {p : Ir} {av bv : Value} {en : Int} (h : CkAt w M p av bv en) (hb : Below w.heap.size w w') : CkAt w' M p av bv en := (hb.block _ (lt_of_blk h)).trans h
theorem ck_temp (M : Nat) (p : Ir) (av bv : Value) (en t : Int) (h0 : 0 ≤ p.temps) (h1 : p.temps ≤ 1048576) (w : World) (h : CkAt w M p av bv en) : Calls Try.prog 96 #[.pointer (some ⟨M, 0, none⟩), .int .i64 t] w fun e w' => e = .returned (.bool (decide (isTemp p t))) ∧ w = w' := by
  have c0 : w.cell? ⟨M, 0, none⟩ = some (.int .i64 p.temps) := (cell_of_blk h 0).1
  obtain ⟨T, arrays, blocks, inp, out⟩ := p
  simp only at h0 h1 c0
  clear h
  go_enter Try.func96, Try.ntmps96
  go_wp2_with (go_at_call 64; refine (ir_within _ _ _ _).mono ?_; rintro e w' ⟨rfl, rfl⟩)
  go_ret
  exact ⟨ret_bool (by rw [← Bool.decide_and, decide_eq_decide]; unfold isTemp; simp only; omega), rfl⟩
theorem ck_label (M : Nat) (p : Ir) (A : Option Addr) (c : Nat) (av : Value) (en t : Int) (h1 : p.blocks.length ≤ 4398046511104) (w : World) (h : CkAt w M p av (.slice A p.blocks.length c) en) : Calls Try.prog 97 #[.pointer (some ⟨M, 0, none⟩), .int .i64 t] w fun e w' => e = .returned (.bool (decide (labelP p t))) ∧ w = w' := by
  have c0 : w.cell? ⟨M, 2, none⟩ = some (.slice A p.blocks.length c) := (cell_of_blk h 2).1
  have hl : labelP p t ↔ (-1 ≤ t ∧ t < (p.blocks.length : Int)) := Iff.rfl
  have e1 : wrap64 ((p.blocks.length : Int) - 1) = (p.blocks.length : Int) - 1 := by unfold wrap64; omega
  have HL := Lib.hid hl
  clear h hl
  go_enter Try.func97, Try.ntmps97
  go_wp2_with (go_at_call 64; refine (ir_within _ _ _ _).mono ?_; rintro e w' ⟨rfl, rfl⟩)
  go_ret
  exact ⟨ret_bool (by rw [← Bool.decide_and, decide_eq_decide, HL.out]; omega), rfl⟩
end Go.Proofs.Ytiaimceefkdchaa
