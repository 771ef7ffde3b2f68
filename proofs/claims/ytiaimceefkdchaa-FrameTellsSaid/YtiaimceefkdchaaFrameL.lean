/- Contracts of frame's and hauberkref26's small functions; hauberklaw26.lives. No condition but those that each theorem names. -/
import Derived.Test.YtiaimceefkdchaaFrameOf
namespace Go.Proofs.Ytiaimceefkdchaa
open Go.ChangeShapes Go.WideShapes Go.ChangeAt Go.RowKit
def mmRail (k : Int) : Int := if k = 0 then 537133056 else if k = 1 then 537395200 else 0
theorem memmap_Rail (k : Int) (w : World) : Calls Try.prog 50 #[.int .i64 k] w fun e w' => e = .returned (.int .i64 (mmRail k)) ∧ w = w' := by
  by_cases h0 : k = 0
  · subst h0
    go_enter Try.func50, Try.ntmps50
    go_wp2_with fail
    go_ret
    exact ⟨rfl, rfl⟩
  · have q0 : (k == 0) = false := by rw [beq_eq_false_iff_ne]; exact h0
    by_cases h1 : k = 1
    · subst h1
      go_enter Try.func50, Try.ntmps50
      go_wp2_with fail
      go_ret
      exact ⟨rfl, rfl⟩
    · have q1 : (k == 1) = false := by rw [beq_eq_false_iff_ne]; exact h1
      have e : mmRail k = 0 := by unfold mmRail; rw [if_neg h0, if_neg h1]
      rw [e]
      clear e
      go_enter Try.func50, Try.ntmps50
      go_wp2_with fail
      go_ret
      exact ⟨rfl, rfl⟩
def fTemp (t : Int) : Int := if 0 ≤ t ∧ t ≤ 16382 then 4 + 4 * t else 0
theorem frame_Temp (t : Int) (w : World) : Calls Try.prog 21 #[.int .i64 t] w fun e w' => e = .returned (.int .i64 (fTemp t)) ∧ w = w' := by
  unfold fTemp
  by_cases h : 0 ≤ t ∧ t ≤ 16382
  · rw [if_pos h]
    obtain ⟨h0, h1⟩ := h
    go_enter Try.func21, Try.ntmps21
    go_wp2_with fail
    go_ret
    exact ⟨ret_int (by omega), rfl⟩
  · rw [if_neg h]
    have h2 : t < 0 ∨ (0 ≤ t ∧ 16382 < t) := by omega
    clear h
    rcases h2 with h2 | ⟨h1, h2⟩
    all_goals
      go_enter Try.func21, Try.ntmps21
      go_wp2_with fail
      go_ret
      exact ⟨rfl, rfl⟩
theorem ref26_Temp (t : Int) (w : World) : Calls Try.prog 25 #[.int .i64 t] w fun e w' => e = .returned (.int .i64 (fTemp t)) ∧ w = w' := by
  unfold fTemp
  by_cases h : 0 ≤ t ∧ t ≤ 16382
  · rw [if_pos h]
    obtain ⟨h0, h1⟩ := h
    go_enter Try.func25, Try.ntmps25
    go_wp2_with fail
    go_ret
    exact ⟨ret_int (by omega), rfl⟩
  · rw [if_neg h]
    have h2 : t < 0 ∨ (0 ≤ t ∧ 16382 < t) := by omega
    clear h
    rcases h2 with h2 | ⟨h1, h2⟩
    all_goals
      go_enter Try.func25, Try.ntmps25
      go_wp2_with fail
      go_ret
      exact ⟨rfl, rfl⟩
def fBase (k rail : Int) : Int := if k = 1 then 536936448 else mmRail rail
theorem frame_Base (a : Arr) (rail : Int) (w : World) : Calls Try.prog 26 #[arrVal a, .int .i64 rail] w fun e w' => e = .returned (.int .i64 (fBase a.kind rail)) ∧ Below w.heap.size w w' := by
  obtain ⟨x, l, k, o⟩ := a
  unfold arrVal fBase
  simp only
  by_cases h : k = 1
  · subst h
    rw [if_pos rfl]
    go_enter Try.func26, Try.ntmps26
    go_wp2_with fail
    go_ret
    exact ⟨rfl, bnew _ _⟩
  · rw [if_neg h]
    have q : (k == 1) = false := by rw [beq_eq_false_iff_ne]; exact h
    have HR := Lib.hid (fun W => memmap_Rail rail W)
    generalize mmRail rail = mr at *
    go_enter Try.func26, Try.ntmps26
    go_wp2_with fail
    refine (HR.out _).mono ?_
    rintro e w' ⟨rfl, rfl⟩
    go_wp2_with fail
    go_ret
    exact ⟨rfl, bnew _ _⟩
theorem ref26_Base (a : Arr) (rail : Int) (w : World) : Calls Try.prog 27 #[arrVal a, .int .i64 rail] w fun e w' => e = .returned (.int .i64 (fBase a.kind rail)) ∧ Below w.heap.size w w' := by
  obtain ⟨x, l, k, o⟩ := a
  unfold arrVal fBase
  simp only
  by_cases h : k = 1
  · subst h
    rw [if_pos rfl]
    go_enter Try.func27, Try.ntmps27
    go_wp2_with fail
    go_ret
    exact ⟨rfl, bnew _ _⟩
  · rw [if_neg h]
    have q : (k == 1) = false := by rw [beq_eq_false_iff_ne]; exact h
    by_cases h0 : rail = 0
    · subst h0
      go_enter Try.func27, Try.ntmps27
      go_wp2_with fail
      go_ret
      exact ⟨rfl, bnew _ _⟩
    · have q0 : (rail == 0) = false := by rw [beq_eq_false_iff_ne]; exact h0
      by_cases h1 : rail = 1
      · subst h1
        go_enter Try.func27, Try.ntmps27
        go_wp2_with fail
        go_ret
        exact ⟨rfl, bnew _ _⟩
      · have q1 : (rail == 1) = false := by rw [beq_eq_false_iff_ne]; exact h1
        have e : mmRail rail = 0 := by unfold mmRail; rw [if_neg h0, if_neg h1]
        rw [e]
        clear e
        go_enter Try.func27, Try.ntmps27
        go_wp2_with fail
        go_ret
        exact ⟨rfl, bnew _ _⟩
def exIr : Ir := ⟨2, [⟨1, 5, 0, 0⟩], [⟨[], ⟨3, 0, 0, 0⟩⟩], 0, 4⟩
theorem exIr_err : frErr exIr = 0 := by decide
theorem exIr_lay : frLay exIr = ⟨12, [16], 24⟩ := by unfold frLay; rw [if_pos exIr_err]; rfl
theorem intR_small (n : Int) (h0 : -1000 ≤ n) (h1 : n ≤ 1000) : IntR n := by unfold IntR; omega
theorem exIr_fine : exIr.fine := by
  refine ⟨intR_small _ (by decide) (by decide), intR_small _ (by decide) (by decide), intR_small _ (by decide) (by decide), by decide, by decide, ?_, ?_⟩
  · intro x hx
    obtain rfl : x = ⟨1, 5, 0, 0⟩ := by simpa [exIr] using hx
    exact ⟨intR_small _ (by decide) (by decide), intR_small _ (by decide) (by decide), intR_small _ (by decide) (by decide), intR_small _ (by decide) (by decide)⟩
  · intro x hx
    obtain rfl : x = ⟨[], ⟨3, 0, 0, 0⟩⟩ := by simpa [exIr] using hx
    exact ⟨by decide, by intro o ho; simp at ho, intR_small _ (by decide) (by decide), intR_small _ (by decide) (by decide), intR_small _ (by decide) (by decide), intR_small _ (by decide) (by decide)⟩
/-- A slice of one element in a block of its own. -/
theorem slRep_one {T : Type} {E : Enc T} {w : World} {B g : Nat} {t : TypeId} {es : List Value} {x : T} (hb : w.heap[g]? = some (.cells es.toArray t (0, 0))) (hB : g < B) (hr : E.rep w B es x) : SlRep E w B (.slice (some ⟨g, 0, none⟩) 1 1) [x] := by
  refine ⟨some ⟨g, 0, none⟩, 1, rfl, by simp, fun k u hk => ?_⟩
  have hk0 : k = 0 := by
    cases k with
    | zero => rfl
    | succ k => simp at hk
  subst hk0
  simp at hk
  subst hk
  refine ⟨g, 0, es, rfl, hB, hr, fun j u hu => ?_⟩
  have := (cell_of_blk hb j).1
  rw [show 0 + 0 * E.size + j = j by omega, this]
  simpa using hu
set_option maxRecDepth 100000 in
set_option maxHeartbeats 2000000 in
theorem law26_lives (w : World) : Calls Try.prog 20 #[] w fun e w' => e = .returned (.bool true) ∧ Below w.heap.size w w' := by
  have HOF := Lib.hid (fun av bv W h => frame_Of exIr av bv exIr_fine W h)
  unfold FrPost at HOF
  rw [exIr_err, exIr_lay] at HOF
  unfold irVal frCells at HOF
  go_enter Try.func20, Try.ntmps20
  go_wp2_with fail
  have hA : (((w.alloc (.cells #[.int .i64 1, .int .i64 5, .int .i64 0, .int .i64 0] 36)).alloc (.cells #[.slice none 0 0, .int .i64 3, .int .i64 0, .int .i64 0, .int .i64 0] 55)).alloc (.cells #[.int .i64 2, .slice (some ⟨w.heap.size, 0, none⟩) 1 1, .slice (some ⟨w.heap.size + 1, 0, none⟩) 1 1, .int .i64 0, .int .i64 4] 25)).heap[w.heap.size]? = some (.cells #[.int .i64 1, .int .i64 5, .int .i64 0, .int .i64 0] 36 (0, 0)) :=
    ((bal (bnew (w.alloc (.cells #[.int .i64 1, .int .i64 5, .int .i64 0, .int .i64 0] 36)) _) _).block _ (by simp)).trans (heap_alloc_new w _)
  have hB : (((w.alloc (.cells #[.int .i64 1, .int .i64 5, .int .i64 0, .int .i64 0] 36)).alloc (.cells #[.slice none 0 0, .int .i64 3, .int .i64 0, .int .i64 0, .int .i64 0] 55)).alloc (.cells #[.int .i64 2, .slice (some ⟨w.heap.size, 0, none⟩) 1 1, .slice (some ⟨w.heap.size + 1, 0, none⟩) 1 1, .int .i64 0, .int .i64 4] 25)).heap[w.heap.size + 1]? = some (.cells #[.slice none 0 0, .int .i64 3, .int .i64 0, .int .i64 0, .int .i64 0] 55 (0, 0)) :=
    ((bnew ((w.alloc (.cells #[.int .i64 1, .int .i64 5, .int .i64 0, .int .i64 0] 36)).alloc (.cells #[.slice none 0 0, .int .i64 3, .int .i64 0, .int .i64 0, .int .i64 0] 55)) _).block _ (by simp)).trans (alloc_new2 w _ _)
  have hBl := bal (bal (bnew w (.cells #[.int .i64 1, .int .i64 5, .int .i64 0, .int .i64 0] 36)) (.cells #[.slice none 0 0, .int .i64 3, .int .i64 0, .int .i64 0, .int .i64 0] 55)) (.cells #[.int .i64 2, .slice (some ⟨w.heap.size, 0, none⟩) 1 1, .slice (some ⟨w.heap.size + 1, 0, none⟩) 1 1, .int .i64 0, .int .i64 4] 25)
  generalize ((w.alloc (.cells #[.int .i64 1, .int .i64 5, .int .i64 0, .int .i64 0] 36)).alloc (.cells #[.slice none 0 0, .int .i64 3, .int .i64 0, .int .i64 0, .int .i64 0] 55)).alloc (.cells #[.int .i64 2, .slice (some ⟨w.heap.size, 0, none⟩) 1 1, .slice (some ⟨w.heap.size + 1, 0, none⟩) 1 1, .int .i64 0, .int .i64 4] 25) = w3 at *
  have hI : IrRep w3 w3.heap.size exIr (.slice (some ⟨w.heap.size, 0, none⟩) 1 1) (.slice (some ⟨w.heap.size + 1, 0, none⟩) 1 1) :=
    ⟨slRep_one (E := arrEnc) (es := arrCells ⟨1, 5, 0, 0⟩) hA (lt_of_blk hA) rfl, slRep_one (E := blkEnc) (es := .slice none 0 0 :: trmCells ⟨3, 0, 0, 0⟩) hB (lt_of_blk hB) ⟨.slice none 0 0, rfl, SlRep.nil_ _ _⟩⟩
  have HIR := Lib.hid hI
  have HBL := Lib.hid hBl
  clear hA hB hI hBl
  refine (HOF.out _ _ _ HIR.out).mono ?_
  rintro e w4 ⟨fv, rfl, hb4, ho4⟩
  obtain ⟨gv, cv, rfl⟩ := own_form (n := 0) ho4
  have hc := ho4.cellAt 0 (by decide)
  have hc4 : (w4.alloc (.cells #[.int .i64 12, .slice (some ⟨gv, 0, none⟩) (0 + 1) cv, .int .i64 24] 28)).cell? ⟨gv, 0, none⟩ = some (.int .i64 16) := by
    have hlt := (ho4.lt gv rfl).2
    exact ((bnew w4 _).cell (p := ⟨gv, 0, none⟩) hlt).trans hc
  have HB4 := Lib.hid (bch HBL.out hb4)
  clear hb4 ho4 hc
  go_wp2_with fail
  refine (frame_Temp _ _).mono ?_
  rintro e w5 ⟨rfl, rfl⟩
  go_wp2_with fail
  go_ret
  exact ⟨rfl, bal HB4.out _⟩
set_option maxRecDepth 100000 in
theorem open_arr {W : World} {H : Type} {enc : TypeId × Value → H} {v : Value} {d : DataW H} {ps : List MemPlace} {base : Nat} (hval : Value.okWide Try.prog W .any base 36 v)
    (hd : DataW.Trod enc Try.prog W 0 (fun _ => true) true 36 v d ps) (hlt : ∀ p ∈ ps, p.block < W.heap.size) (hw : ∀ n ∈ d.weights Try.prog 36, n ≤ reachBytes) :
    ∃ a : Arr, v = arrVal a ∧ a.fine := by
  have hval2 := hval
  simp only [Value.okWide, Try.underlying36] at hval2
  obtain ⟨cs, rfl, hsz, _⟩ := hval2
  obtain ⟨x, he, h0⟩ := (opens_arr (W := W) (B := W.heap.size)).arg hd hlt hw
  refine ⟨x, ?_, h0⟩
  obtain ⟨l⟩ := cs
  simp only [Value.cells] at he
  rw [he]
  rfl
theorem bdr {B : Nat} {a w : World} (h : Below B a w) : Below B a w.drew := ⟨h.os, h.tape, h.output, h.size, h.block⟩
end Go.Proofs.Ytiaimceefkdchaa
