/- Parts of a proof, joined. No condition but those that each theorem names. -/
import Derived.WalkKit
import Derived.OpenShut
import Derived.Below
import Derived.Lib.Hide
import Derived.Laws.OwnMore
import Derived.Deep.QuietTactic
import Derived.Deep.AppendLies
import Derived.ProofKit
import Derived.SizedLaws
import Derived.Test.YthkobddggoojlaaProg
import Derived.Handy
import Derived.Test.YthkobddggoojlaaTeG0e0
import Derived.Test.YthkobddggoojlaaTeG0e2
import Derived.Test.YthkobddggoojlaaTeG0e1
namespace Go.Proofs.Ythkobddggoojlaa
open Go.RowKit
theorem ir_within (n a b : Int) (w : World) : Calls Try.prog 24 #[.int .i64 n, .int .i64 a, .int .i64 b] w fun e w' => e = .returned (.bool (decide (a ≤ n ∧ n ≤ b))) ∧ w = w' := by
  go_enter Try.func24, Try.ntmps24
  by_cases h1 : a ≤ n
  · by_cases h2 : n ≤ b
    all_goals
      go_wp2
      go_ret
      exact ⟨ret_bool (by simp; omega), rfl⟩
  · go_wp2
    go_ret
    exact ⟨ret_bool (by simp; omega), rfl⟩
theorem ir_up (n : Int) (h0 : 0 ≤ n) (h1 : n ≤ 1000000000) (w : World) : Calls Try.prog 44 #[.int .i64 n] w fun e w' => e = .returned (.int .i64 (up4 n)) ∧ w = w' := by
  go_enter Try.func44, Try.ntmps44
  go_wp2
  go_ret
  refine ⟨ret_int ?_, rfl⟩
  unfold up4
  omega
theorem ir_shaped (a : Arr) (w : World) : Calls Try.prog 43 #[.agg #[.int .i64 a.elem, .int .i64 a.len, .int .i64 a.kind, .int .i64 a.off]] w fun e w' => e = .returned (.bool (decide (shapedP a))) ∧ Below w.heap.size w w' := by
  obtain ⟨x, l, k, o⟩ := a
  simp only
  unfold shapedP
  simp only
  go_enter Try.func43, Try.ntmps43
  by_cases h1 : x = 1
  · subst h1
    by_cases h2 : 1 ≤ l
    · by_cases h3 : l ≤ 16384
      all_goals
        go_wp2
        go_ret
        exact ⟨ret_bool (by first | (simp; done) | (simp; omega) | (simp; intro h; omega)), bnew _ _⟩
    · go_wp2
      go_ret
      exact ⟨ret_bool (by first | (simp; done) | (simp; omega) | (simp; intro h; omega)), bnew _ _⟩
  · by_cases h4 : x = 4
    · subst h4
      by_cases h2 : 1 ≤ l
      · by_cases h3 : l ≤ 16384
        all_goals
          go_wp2
          go_ret
          exact ⟨ret_bool (by first | (simp; done) | (simp; omega) | (simp; intro h; omega)), bnew _ _⟩
      · go_wp2
        go_ret
        exact ⟨ret_bool (by first | (simp; done) | (simp; omega) | (simp; intro h; omega)), bnew _ _⟩
    · have q1 : (x == 1) = false := by rw [beq_eq_false_iff_ne]; exact h1
      have q4 : (x == 4) = false := by rw [beq_eq_false_iff_ne]; exact h4
      go_wp2
      go_ret
      exact ⟨ret_bool (by simp [h1, h4]), bnew _ _⟩
def formVal (k : Int) : Value := .agg #[.bool (fDst k), .int .i64 (fSrc k : Nat), .int .i64 0, .int .i64 (fMost k), .bool (fOk k)]
set_option maxHeartbeats 4000000 in
theorem ir_formOf (k : Int) (w : World) : Calls Try.prog 45 #[.int .i64 k] w fun e w' => e = .returned (formVal k) ∧ Below w.heap.size w w' := by
  by_cases h : 1 ≤ k ∧ k ≤ 19
  · have hk : k = 1 ∨ k = 2 ∨ k = 3 ∨ k = 4 ∨ k = 5 ∨ k = 6 ∨ k = 7 ∨ k = 8 ∨ k = 9 ∨ k = 10 ∨ k = 11 ∨ k = 12 ∨ k = 13 ∨ k = 14 ∨ k = 15 ∨ k = 16 ∨ k = 17 ∨ k = 18 ∨ k = 19 := by omega
    clear h
    rcases hk with rfl | rfl | rfl | rfl | rfl | rfl | rfl | rfl | rfl | rfl | rfl | rfl | rfl | rfl | rfl | rfl | rfl | rfl | rfl
    all_goals
      go_enter Try.func45, Try.ntmps45
      go_wp2
      go_returns
      exact ⟨rfl, bnew _ _⟩
  · have hn : ∀ j : Int, 1 ≤ j → j ≤ 19 → (k == j) = false := by intro j h1 h2; rw [beq_eq_false_iff_ne]; omega
    have e : formVal k = .agg #[.bool false, .int .i64 0, .int .i64 0, .int .i64 0, .bool false] := by
      unfold formVal fDst fSrc fMost fOk
      rw [decide_eq_false (by omega), if_neg (by omega), if_neg (by omega), if_neg (by omega), if_neg (by omega), if_neg (by omega), if_neg (by omega), decide_eq_false (by omega)]
      rfl
    rw [e]
    have q1 := hn 1 (by omega) (by omega)
    have q2 := hn 2 (by omega) (by omega)
    have q3 := hn 3 (by omega) (by omega)
    have q4 := hn 4 (by omega) (by omega)
    have q5 := hn 5 (by omega) (by omega)
    have q6 := hn 6 (by omega) (by omega)
    have q7 := hn 7 (by omega) (by omega)
    have q8 := hn 8 (by omega) (by omega)
    have q9 := hn 9 (by omega) (by omega)
    have q10 := hn 10 (by omega) (by omega)
    have q11 := hn 11 (by omega) (by omega)
    have q12 := hn 12 (by omega) (by omega)
    have q13 := hn 13 (by omega) (by omega)
    have q14 := hn 14 (by omega) (by omega)
    have q15 := hn 15 (by omega) (by omega)
    have q16 := hn 16 (by omega) (by omega)
    have q17 := hn 17 (by omega) (by omega)
    have q18 := hn 18 (by omega) (by omega)
    have q19 := hn 19 (by omega) (by omega)
    clear hn h e
    go_enter Try.func45, Try.ntmps45
    go_wp2
    go_returns
    exact ⟨rfl, bnew _ _⟩
end Go.Proofs.Ythkobddggoojlaa
namespace Go.Proofs.Ythkobddggoojlaa
open Go.RowKit
theorem run_first3 (g n : Nat) (h : n ≤ 3) (W : World) : (Instr.slice 72 (.slice (some ⟨g, 0, none⟩) 3 3) none (some (.int .i64 (n : Int))) none).run Try.prog W = .ok (.slice (some ⟨g, 0, none⟩) n 3) W := by
  have q2 : (n : Int) ≤ 3 := by omega
  simp [go_sem, q2]
theorem fSrc_le (k : Int) : fSrc k ≤ 3 := by unfold fSrc; split <;> (try split) <;> (try split) <;> omega
theorem alloc_new2 (w : World) (x y : Obj) : ((w.alloc x).alloc y).heap[w.heap.size + 1]? = some y := by
  have h := heap_alloc_new (w.alloc x) y
  rwa [show (w.alloc x).heap.size = w.heap.size + 1 by simp] at h
def opVal (o : Opn) : Value := .agg #[.int .i64 o.kind, .int .i64 o.dst, .int .i64 o.a, .int .i64 o.b, .int .i64 o.c, .int .i64 o.imm]
theorem run_fld1 (f1 : Bool) (f2 f3 : Int) (f4 : Bool) (W : World) : (Instr.field 81 (.agg #[.bool f1, .int .i64 f2, .int .i64 0, .int .i64 f3, .bool f4]) 1).run Try.prog W = .ok (.int .i64 f2) W := by kernel_rfl
set_option maxRecDepth 100000 in
theorem ir_Uses (o : Opn) (w : World) : Calls Try.prog 46 #[opVal o] w fun e w' => ∃ g, e = .returned (.slice (some ⟨g, 0, none⟩) (fSrc o.kind) 3) ∧ w'.heap[g]? = some (.cells #[.int .i64 o.a, .int .i64 o.b, .int .i64 o.c] 3 (0, 0)) ∧ w.heap.size ≤ g ∧ Below w.heap.size w w' := by
  obtain ⟨k, d, a, b, c, i⟩ := o
  have HF := Lib.hid (fun W => ir_formOf k W)
  unfold formVal at HF
  unfold opVal
  simp only
  have hcut := fun g W => run_first3 g (fSrc k) (fSrc_le k) W
  generalize fDst k = f1 at *
  generalize fMost k = f3 at *
  generalize fOk k = f4 at *
  generalize fSrc k = f2 at *
  have hfl := run_fld1 f1 (f2 : Nat) f3 f4
  go_enter Try.func46, Try.ntmps46
  go_wp2_with fail
  refine (HF.out _).mono ?_
  rintro e w2 ⟨rfl, hb⟩
  have hx := (hb.block (w.heap.size + 1) (by simp)).trans (alloc_new2 w _ _)
  have HX := Lib.hid hx
  have HB := Lib.hid (bch (bal (bnew _ _) _) hb)
  clear hb hx
  go_wp2_with fail
  go_ret
  exact ⟨w.heap.size + 1, rfl, HX.out, by omega, HB.out⟩
def ckCells (p : Ir) (av bv : Value) (en : Int) : Array Value := #[.int .i64 p.temps, av, bv, .int .i64 p.inp, .int .i64 p.out, .int .i64 en]
def CkAt (w : World) (M : Nat) (p : Ir) (av bv : Value) (en : Int) : Prop := w.heap[M]? = some (.cells (ckCells p av bv en) 62 (0, 0))
theorem CkAt.below {w w' : World} {M : Nat} {p : Ir} {av bv : Value} {en : Int} (h : CkAt w M p av bv en) (hb : Below w.heap.size w w') : CkAt w' M p av bv en := (hb.block _ (lt_of_blk h)).trans h
theorem ck_temp (M : Nat) (p : Ir) (av bv : Value) (en t : Int) (h0 : 0 ≤ p.temps) (h1 : p.temps ≤ 1048576) (w : World) (h : CkAt w M p av bv en) : Calls Try.prog 47 #[.pointer (some ⟨M, 0, none⟩), .int .i64 t] w fun e w' => e = .returned (.bool (decide (isTemp p t))) ∧ w = w' := by
  have c0 : w.cell? ⟨M, 0, none⟩ = some (.int .i64 p.temps) := (cell_of_blk h 0).1
  obtain ⟨T, arrays, blocks, inp, out⟩ := p
  simp only at h0 h1 c0
  clear h
  go_enter Try.func47, Try.ntmps47
  go_wp2_with (go_at_call 24; refine (ir_within _ _ _ _).mono ?_; rintro e w' ⟨rfl, rfl⟩)
  go_ret
  exact ⟨ret_bool (by rw [← Bool.decide_and, decide_eq_decide]; unfold isTemp; simp only; omega), rfl⟩
theorem ck_label (M : Nat) (p : Ir) (A : Option Addr) (c : Nat) (av : Value) (en t : Int) (h1 : p.blocks.length ≤ 4398046511104) (w : World) (h : CkAt w M p av (.slice A p.blocks.length c) en) : Calls Try.prog 48 #[.pointer (some ⟨M, 0, none⟩), .int .i64 t] w fun e w' => e = .returned (.bool (decide (labelP p t))) ∧ w = w' := by
  have c0 : w.cell? ⟨M, 2, none⟩ = some (.slice A p.blocks.length c) := (cell_of_blk h 2).1
  have hl : labelP p t ↔ (-1 ≤ t ∧ t < (p.blocks.length : Int)) := Iff.rfl
  have e1 : wrap64 ((p.blocks.length : Int) - 1) = (p.blocks.length : Int) - 1 := by unfold wrap64; omega
  have HL := Lib.hid hl
  clear h hl
  go_enter Try.func48, Try.ntmps48
  go_wp2_with (go_at_call 24; refine (ir_within _ _ _ _).mono ?_; rintro e w' ⟨rfl, rfl⟩)
  go_ret
  exact ⟨ret_bool (by rw [← Bool.decide_and, decide_eq_decide, HL.out]; omega), rfl⟩
end Go.Proofs.Ythkobddggoojlaa
