/- Parts of a proof. No condition but those that each theorem names. -/
import Derived.WalkKit
import Derived.OpenShut
import Derived.Below
import Derived.Lib.Hide
import Derived.Laws.OwnMore
import Derived.Deep.QuietTactic
import Derived.Deep.AppendLies
import Derived.ProofKit
import Derived.SizedLaws
import Derived.Test.YthkobddggoojlaaProg
import Derived.Handy
import Derived.Deep.RegionHeld3
import Derived.BigQuiet
import Derived.Maps.AppendAt
import Derived.Maps.RangeWalk
import Derived.Maps.OwnSet
import Derived.StillTailTactics
import Derived.Laws.CopyOwn
import Derived.Lib.BufferWrite
import Derived.OrdersHeld
import Derived.RegionTactic
import Derived.RangeFuncNested
import Derived.RangeFuncBound
import Derived.RangeFuncCalls
import Derived.RangeFuncLeaves
import Derived.Test.YthkobddggoojlaaTeG0e0
import Derived.Test.YthkobddggoojlaaTeG0e1
import Derived.Test.YthkobddggoojlaaTeG0e2
import Derived.Test.YthkobddggoojlaaTeG0e4
import Derived.Test.YthkobddggoojlaaTeG1e6
import Derived.Test.YthkobddggoojlaaTeG1e7
namespace Go.Proofs.Ythkobddggoojlaa
open Go Go.RowKit
set_option linter.unusedVariables false
variable {F : Fence} {n : Nat} {P : Program}
/-- What holds where a round goes on; no other way out. -/
def placePost (X : World → Prop) : Exit → Act → World → Prop
  | .normal, _, W => X W
  | _, _, _ => False
/-- The iterator's contract: at each place it reads whether there is one; where there is none it goes on. -/
def ThereIn (F : Fence) (n : Nat) (P : Program) (gf : Nat) (bd lb : Array Value) (N : Nat) (Rd : World → Prop) (Fl : World → Nat → Bool → Prop) : Prop :=
  ∀ (l : Nat) (J : Nat → World → Prop) (W : World), (∀ k W1, J k W1 → Rd W1) → (∀ k W1, J k W1 → k < N → Fl W1 k true → J (k + 1) W1) →
    (∀ k W1, J k W1 → k < N → Fl W1 k false → YieldAt F (n - 1) P l #[.int .i64 k] W1 fun e W' => e = .returned (.bool true) ∧ J (k + 1) W') → J 0 W →
    CallsIn F n P gf (bd ++ #[.func (.yield l) #[] #[]] ++ lb) W fun e W' => (∃ v, e = .returned v) ∧ J N W'
/-- Nothing below B is turned, and no cells. -/
def LoopKept (B : Nat) (W W' : World) : Prop := Below B W W' ∧ ∀ (g : Nat) (x : Obj), W.heap[g]? = some x → x.isCells = true → W'.heap[g]? = some x
theorem LoopKept.alloc {B : Nat} {W : World} (hB : B ≤ W.heap.size) (o : Obj) : LoopKept B W (W.alloc o) := ⟨(Below.refl B W).alloc hB o, fun g x h _ => ((Below.refl W.heap.size W).alloc (Nat.le_refl _) o |>.block g (lt_of_blk h)).trans h⟩
theorem LoopKept.putObj {B l : Nat} {W : World} {o : Obj} (h : W.heap[l]? = some o) (ho : o.isCells = false) (hB : B ≤ l) (o' : Obj) : LoopKept B W (W.putObj l o') := by
  refine ⟨(Below.refl B W).grown (grownBy_putObj' W l o') (by have := lt_of_blk h; omega) (fun k e => by cases e; exact hB), fun g x hg hx => ?_⟩
  rw [World.putObj_heap_other (fun e => by rw [e, h] at hg; injection hg with hg; rw [hg, hx] at ho; cases ho)]
  exact hg
theorem wpIn_rangeThere {g : Operand} {ps : Array Tmp} {assign body : Code} {Q : Exit → Act → World → Prop} {a : Act} {w : World}
    (hro : F.round = none) (h1 : 1 ≤ n) {gf N : Nat} {bd lb : Array Value} (hg : a.eval g = .func (.func gf) bd lb) (hFg : F.fn gf) (eg : ∀ args w, (callFunc gf args).run P w = .ok (.enter gf args) w)
    {Rd : World → Prop} {Fl : World → Nat → Bool → Prop} (hseq : ThereIn F (n - 1) P gf bd lb N Rd Fl) (hps : ps.size = 1)
    (I : Nat → World → Prop) (hI : ∀ k W W', I k W → LoopKept w.heap.size W W' → I k W') (h0 : I 0 w) (hRd : ∀ k W, I k W → Rd W) (hFl : ∀ k W W' b, Fl W' k b → LoopKept w.heap.size W' W → Fl W k b)
    (hskip : ∀ k W, I k W → k < N → Fl W k true → I (k + 1) W) (a₁ : Nat → Act)
    (hassign : ∀ (l k : Nat) (W : World) (K : Act → World → Prop), K (a₁ k) W →
      assign.wpIn (F.inRound l) (n - 1 - 1) P (Exit.then K (fun _ _ _ => False)) { tmps := (ps.zip #[(.int .i64 (k : Int) : Value)]).foldl (fun t (p, v) => t.setIfInBounds p v) a.tmps, defers := [] } W)
    (hbody : ∀ (l k : Nat) (W : World) (R D : Obj), k < N → I k W → Fl W k false → W.heap[w.heap.size]? = some D → W.heap[w.heap.size + 1]? = some R → R.isCells = false →
      body.wpIn (F.inRound l) (n - 1 - 1) P (placePost fun W' => I (k + 1) W' ∧ W'.heap[w.heap.size]? = some D ∧ W'.heap[w.heap.size + 1]? = some R) (a₁ k) W)
    (hdone : ∀ (W : World), I N W → W.heap[w.heap.size]? = some (.deferred (some [])) → Q .normal { a with defers := { target := .collected w.heap.size, args := #[] } :: a.defers } W) :
    (Code.rangeFunc g ps assign body).wpIn F n P Q a w := by
  refine wpIn_rangeFunc ?_
  intro fn hfn
  rw [hro]
  obtain ⟨rec, hrec⟩ : ∃ rec : LoopState → Option Code → Loop, rec = fun st pe => { state := st, pending := pe, fn, tmps := a.tmps, params := ps, assign, body, defers := w.heap.size } := ⟨_, rfl⟩
  obtain ⟨W1, hW1⟩ : ∃ W1, (w.alloc (.deferred (some []))).alloc (.loop (rec .ready none)) = W1 := ⟨_, rfl⟩
  have hL1 : W1.heap[w.heap.size + 1]? = some (.loop (rec .ready none)) := by
    rw [← hW1]; have := World.alloc_heap_new (w.alloc (.deferred (some []))) (.loop (rec .ready none)); rwa [World.size_alloc] at this
  have hK1 : W1.heap[w.heap.size]? = some (.deferred (some [])) := by
    rw [← hW1]; exact (Below.heap_alloc _ _ _ (by simp)).trans (World.alloc_heap_new w _)
  have hI1 : I 0 W1 := by rw [← hW1]; exact hI _ _ _ (hI _ _ _ h0 (LoopKept.alloc (Nat.le_refl _) _)) (LoopKept.alloc (by simp) _)
  refine ⟨w.heap.size + 1, [{ target := .collected w.heap.size, args := #[] }], W1, { target := .fn (.func gf) lb, args := bd ++ #[.func (.yield (w.heap.size + 1)) #[] #[]] }, W1, gf,
    bd ++ #[.func (.yield (w.heap.size + 1)) #[] #[]] ++ lb, W1, ?_, ?_, ?_, ?_, fun _ => h1, ?_⟩
  · rw [← hW1, hrec]; exact run_enterLoop_outer _ _ _ _ _
  · simp only [resolve, hg]
    simp [go_sem]
  · intro f' hf'; simp [Target.leads] at hf'; subst hf'; exact hFg
  · simp [invoke, go_sem, eg]
  · refine (hseq (w.heap.size + 1)
      (fun k W => I k W ∧ W.heap[w.heap.size + 1]? = some (.loop (rec .ready none)) ∧ W.heap[w.heap.size]? = some (.deferred (some [])))
      W1 (fun k W h => hRd k W h.1) (fun k W h hk hf => ⟨hskip k W h.1 hk hf, h.2⟩) ?_ ⟨hI1, hL1, hK1⟩).mono ?_
    · rintro k W ⟨hi, hl, hk⟩ hlen hf
      have hlt : w.heap.size + 1 < W.heap.size := lt_of_blk hl
      have hy := run_yield (P := P) (args := #[(.int .i64 (k : Int) : Value)]) hl (by rw [hrec]; exact hps.symm)
      rw [hrec] at hy
      refine ⟨fn, _, assign, body, hy, roundIn_of_wpIn hfn (hassign _ k W _ ⟨_, run_beginRound hl (by rw [hrec]), ?_⟩)⟩
      have hl2 : (W.putObj (w.heap.size + 1) (.loop { rec .ready none with state := .busy })).heap[w.heap.size + 1]? = some (.loop { rec .ready none with state := .busy }) := World.putObj_heap_same hlt
      have hk2 : (W.putObj (w.heap.size + 1) (.loop { rec .ready none with state := .busy })).heap[w.heap.size]? = some (.deferred (some [])) := (World.putObj_heap_other (by omega)).trans hk
      have hput := LoopKept.putObj (B := w.heap.size) hl rfl (Nat.le_succ _) (.loop { rec .ready none with state := .busy })
      refine wpIn_mono (hbody _ k _ _ _ hlen (hI _ _ _ hi hput) (hFl _ _ _ _ hf hput) hk2 hl2 rfl) ?_
      rintro e a3 W3 hp
      cases e with
      | normal =>
        obtain ⟨hi3, hk3, hl3⟩ := hp
        have hr := run_endRound (P := P) none hl3
        have hfin := LoopKept.putObj (B := w.heap.size) hl3 rfl (Nat.le_succ _) (.loop (rec .ready none))
        refine ⟨_, _, hr, ?_⟩
        rw [hrec] at hfin ⊢
        exact ⟨rfl, hI _ _ _ hi3 hfin, World.putObj_heap_same (lt_of_blk hl3), (World.putObj_heap_other (by omega)).trans hk3⟩
      | ret => exact hp.elim
      | exit id => exact hp.elim
      | goto t => exact hp.elim
      | panic ch => exact hp.elim
      | outgrown => exact hp.elim
    · rintro e W2 ⟨⟨v, rfl⟩, hi, hl, hk⟩
      exact ⟨none, _, by have := run_endLoop (P := P) hl (by rw [hrec]; simp); rw [hrec] at this; exact this, hdone _ (hI _ _ _ hi (LoopKept.putObj hl rfl (Nat.le_succ _) _)) ((World.putObj_heap_other (by omega)).trans hk)⟩
end Go.Proofs.Ythkobddggoojlaa
