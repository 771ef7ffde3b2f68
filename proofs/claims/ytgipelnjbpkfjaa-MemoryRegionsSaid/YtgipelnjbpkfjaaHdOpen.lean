/- A head that comes in as an argument: what its cells hold. -/
import Derived.Test.YtgipelnjbpkfjaaRgOpen
import Derived.Test.YtgipelnjbpkfjaaImgM
import Derived.Test.YtgipelnjbpkfjaaImage
namespace Go.Proofs.Ytgipelnjbpkfjaa
open Go.ChangeShapes Go.WideShapes Go.ChangeAt Go.RowKit
theorem hd_cells : Try.prog.cellsOf 46 = 6 := by kernel_rfl
theorem int_cells : Try.prog.cellsOf 3 = 1 := by kernel_rfl
def hdInt (cs : List Value) : Prop := ∃ n, cs = [.int .i64 n] ∧ (Lit.int .i64 n).wf = true
def hdSz (cs : List Value) : Prop := ∃ a b c : Int, cs = [.int .i64 a, .int .i64 b, .int .i64 c] ∧ I64 a ∧ I64 b ∧ I64 c
def hdRs (i : Nat) : List Value → Prop := if i = 2 then hdSz else hdInt
set_option maxRecDepth 100000 in
theorem opens_head {W : World} {B : Nat} : Opens Try.prog W B 46 (fun cs => ∃ a b c d e f : Int, cs = [.int .i64 a, .int .i64 b, .int .i64 c, .int .i64 d, .int .i64 e, .int .i64 f] ∧ I64 a ∧ I64 b ∧ I64 c ∧ I64 d ∧ I64 e ∧ I64 f) := by
  refine (opens_struct Try.underlying46 hdRs ?_).mono ?_
  · intro i f hf
    match i, hf with
    | 0, hf => simp at hf; subst hf; rw [show hdRs 0 = hdInt from rfl]; exact (opens_int Try.underlying3)
    | 1, hf => simp at hf; subst hf; rw [show hdRs 1 = hdInt from rfl]; exact (opens_int Try.underlying3)
    | 2, hf => simp at hf; subst hf; rw [show hdRs 2 = hdSz from rfl]; exact opens_sizes
    | 3, hf => simp at hf; subst hf; rw [show hdRs 3 = hdInt from rfl]; exact (opens_int Try.underlying3)
    | i + 4, hf => simp at hf
  · intro cs ⟨hl, hf⟩
    rw [hd_cells] at hl
    match cs, hl with
    | [x0, x1, x2, x3, x4, x5], _ =>
      have h0 : hdInt (([x0, x1, x2, x3, x4, x5].drop 0).take (Try.prog.cellsOf 3)) := hf 0 _ rfl
      have h1 : hdInt (([x0, x1, x2, x3, x4, x5].drop 1).take (Try.prog.cellsOf 3)) := hf 1 _ rfl
      have h2 : hdSz (([x0, x1, x2, x3, x4, x5].drop 2).take (Try.prog.cellsOf 23)) := hf 2 _ rfl
      have h3 : hdInt (([x0, x1, x2, x3, x4, x5].drop 5).take (Try.prog.cellsOf 3)) := hf 3 _ rfl
      rw [int_cells] at h0 h1 h3
      rw [sz_cells] at h2
      obtain ⟨a, e0, w0⟩ : ∃ n, [x0] = [Value.int .i64 n] ∧ (Lit.int .i64 n).wf = true := h0
      obtain ⟨b, e1, w1⟩ : ∃ n, [x1] = [Value.int .i64 n] ∧ (Lit.int .i64 n).wf = true := h1
      obtain ⟨c, d, e, e2, w2, w3, w4⟩ : ∃ a b c : Int, [x2, x3, x4] = [Value.int .i64 a, .int .i64 b, .int .i64 c] ∧ I64 a ∧ I64 b ∧ I64 c := h2
      obtain ⟨f, e3, w5⟩ : ∃ n, [x5] = [Value.int .i64 n] ∧ (Lit.int .i64 n).wf = true := h3
      simp only [List.cons.injEq, and_true] at e0 e1 e2 e3
      obtain ⟨e2, e4, e5⟩ := e2
      subst e0 e1 e2 e3 e4 e5
      exact ⟨a, b, c, d, e, f, rfl, i64_wf w0, i64_wf w1, w2, w3, w4, i64_wf w5⟩
def Hd.wide (h : Hd) : Prop := I64 h.reset ∧ I64 h.handler ∧ I64 h.i ∧ I64 h.o ∧ I64 h.r ∧ I64 h.mode
set_option maxRecDepth 100000 in
theorem open_head {W : World} {H : Type} {enc : TypeId × Value → H} {v : Value} {d : DataW H} {ps : List MemPlace} {base : Nat} (hval : Value.okWide Try.prog W .any base 46 v)
    (hd : DataW.Trod enc Try.prog W 0 (fun _ => true) true 46 v d ps) (hlt : ∀ p ∈ ps, p.block < W.heap.size) (hw : ∀ n ∈ d.weights Try.prog 46, n ≤ reachBytes) :
    ∃ h : Hd, v = hdVal h ∧ h.wide := by
  have hval2 := hval
  simp only [Value.okWide, Try.underlying46] at hval2
  obtain ⟨cs, rfl, hsz, _⟩ := hval2
  obtain ⟨a, b, c, d, e, f, he, h0, h1, h2, h3, h4, h5⟩ := (opens_head (W := W) (B := W.heap.size)).arg hd hlt hw
  refine ⟨⟨a, b, c, d, e, f⟩, ?_, h0, h1, h2, h3, h4, h5⟩
  obtain ⟨l⟩ := cs
  simp only [Value.cells] at he
  rw [he]
  rfl
end Go.Proofs.Ytgipelnjbpkfjaa
