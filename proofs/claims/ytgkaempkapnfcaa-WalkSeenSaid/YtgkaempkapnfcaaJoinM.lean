/- Plain facts: the walk of two lists, one behind the other, is that of the first and then that of the second one; a walk and its way back are none. -/
import Derived.Test.YtgkaempkapnfcaaGroupM
namespace Go.Proofs.Ytgkaempkapnfcaa
open Go.RowKit

theorem then_step (a s : Wk) (e : Ev) (ha : a.t < 4) (hs : s.t < 4) : (a.then s).step e = a.then (s.step e) := by
  obtain ⟨h1, h2⟩ := cos_add a.t s.t ha hs
  unfold Wk.then Wk.step
  simp only [Wk.mk.injEq]
  refine ⟨?_, ?_, ?_⟩
  · rw [← h1]; simp only [Int.mul_add, Int.mul_sub]; rw [Int.mul_left_comm (cosI a.t), Int.mul_left_comm (sinI a.t)]; omega
  · rw [← h2]; simp only [Int.mul_add]; rw [Int.mul_left_comm (cosI a.t), Int.mul_left_comm (sinI a.t)]; omega
  · omega
theorem step_t (s : Wk) (e : Ev) : (s.step e).t < 4 := by unfold Wk.step; simp only; omega
theorem fold_then (a : Wk) (ha : a.t < 4) : ∀ (b : List Ev) (s : Wk), s.t < 4 → b.foldl Wk.step (a.then s) = a.then (b.foldl Wk.step s)
  | [], s, _ => rfl
  | e :: b, s, hs => by
    rw [List.foldl_cons, List.foldl_cons, then_step a s e ha hs]
    exact fold_then a ha b (s.step e) (step_t s e)
theorem wkOf_append (a b : List Ev) : wkOf (a ++ b) = (wkOf a).then (wkOf b) := by
  have ha := (wkOf_inv a).1
  have h := fold_then (wkOf a) ha b wkNone (by decide)
  rw [then_none _ ha] at h
  unfold wkOf at *
  rw [List.foldl_append, h]
theorem then_back (a : Wk) (ha : a.t < 4) : a.then a.back = wkNone := by
  obtain ⟨x, y, t⟩ := a
  simp only at ha
  have e : t = 0 ∨ t = 1 ∨ t = 2 ∨ t = 3 := by omega
  unfold Wk.then Wk.back wkNone
  rcases e with rfl | rfl | rfl | rfl <;> simp [cosI, sinI] <;> omega
theorem back_then (a : Wk) (ha : a.t < 4) : a.back.then a = wkNone := by
  obtain ⟨x, y, t⟩ := a
  simp only at ha
  have e : t = 0 ∨ t = 1 ∨ t = 2 ∨ t = 3 := by omega
  unfold Wk.then Wk.back wkNone
  rcases e with rfl | rfl | rfl | rfl <;> simp [cosI, sinI] <;> omega
theorem wkOf_may (xs : List Ev) (h : xs.length ≤ 200000) : (wkOf xs).may := by
  obtain ⟨h1, h2, h3⟩ := wkOf_inv xs
  unfold Wk.may
  omega
end Go.Proofs.Ytgkaempkapnfcaa
