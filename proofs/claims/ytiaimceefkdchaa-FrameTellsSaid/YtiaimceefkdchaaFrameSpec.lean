/- Where a program's arrays lie: plain definitions and facts. -/
import Derived.Test.YtiaimceefkdchaaIrAt
namespace Go.Proofs.Ytiaimceefkdchaa
open Go.RowKit
set_option linter.unusedVariables false
structure Frm where
  image : Int
  arrays : List Int
  size : Int
def frStep (img : Int) (s : List Int × Int) (a : Arr) : List Int × Int :=
  if a.kind = 1 then (s.1 ++ [a.off], s.2) else if a.kind = 2 then (s.1 ++ [img + a.off], s.2) else (s.1 ++ [s.2], s.2 + up4 (a.elem * a.len))
def frImg (p : Ir) : Int := 4 + 4 * p.temps
def frGo (p : Ir) (l : List Arr) : List Int × Int := l.foldl (frStep (frImg p)) ([], frImg p + p.out)
def frErr (p : Ir) : Int := if irErr p ≠ 0 then irErr p else if 65536 < (frGo p p.arrays).2 then 18 else 0
def frLay (p : Ir) : Frm := if frErr p = 0 then ⟨frImg p, (frGo p p.arrays).1, (frGo p p.arrays).2⟩ else ⟨0, [], 0⟩
theorem frGo_len (p : Ir) : ∀ (l : List Arr) (s : List Int × Int), (l.foldl (frStep (frImg p)) s).1.length = s.1.length + l.length
  | [], s => by simp
  | a :: l, s => by
    rw [List.foldl_cons, frGo_len p l]
    have h : (frStep (frImg p) s a).1.length = s.1.length + 1 := by unfold frStep; split <;> (try split) <;> simp
    rw [h, List.length_cons]; omega
theorem frGo_size (p : Ir) : ∀ (l : List Arr) (s : List Int × Int), (∀ a ∈ l, shapedP a ∧ (a.kind = 0 ∨ a.kind = 1 ∨ a.kind = 2)) → (l.foldl (frStep (frImg p)) s).2 = s.2 + railSum l
  | [], s, h => by simp [railSum]
  | a :: l, s, h => by
    obtain ⟨h1, h2⟩ := h a (by simp)
    rw [List.foldl_cons, frGo_size p l _ (fun x hx => h x (by simp [hx]))]
    have e : (frStep (frImg p) s a).2 = s.2 + railBytes a := by
      unfold frStep railBytes room
      rcases h2 with h2 | h2 | h2 <;> simp [h2, h1]
    rw [e, railSum]; omega
/-- What is known of the arrays of a program that may be. -/
theorem arrEnd_all (inp out : Int) : ∀ (l : List Arr) (en : Int), (arrEnd inp out l en).isSome = true → ∀ a ∈ l, shapedP a ∧ (a.kind = 0 ∨ a.kind = 1 ∨ a.kind = 2)
  | [], en, h, a, ha => by simp at ha
  | x :: l, en, h, a, ha => by
    unfold arrEnd at h
    cases hs : arrStep inp out en x with
    | none => rw [hs] at h; simp at h
    | some e =>
      rw [hs] at h
      rcases List.mem_cons.1 ha with rfl | ha
      · unfold arrStep at hs
        by_cases h1 : shapedP a
        · refine ⟨h1, ?_⟩
          rw [if_neg (by simpa using h1)] at hs
          by_cases k0 : a.kind = 0
          · exact .inl k0
          · rw [if_neg k0] at hs
            by_cases k1 : a.kind = 1
            · exact .inr (.inl k1)
            · rw [if_neg k1] at hs
              by_cases k2 : a.kind = 2
              · exact .inr (.inr k2)
              · rw [if_neg k2] at hs; cases hs
        · rw [if_pos (by simpa using h1)] at hs; cases hs
      · exact arrEnd_all inp out l e h a ha
theorem irErr_ok {p : Ir} (h : irErr p = 0) : ¬ greatP p ∧ mayP p := by
  unfold irErr at h
  by_cases hg : greatP p
  · rw [if_pos hg] at h; exact absurd h (by decide)
  · rw [if_neg hg] at h
    refine ⟨hg, ?_⟩
    by_cases hm : mayP p
    · exact hm
    · rw [if_neg hm] at h; exact absurd h (by decide)
theorem frGo_step (p : Ir) (k : Nat) (h : k < p.arrays.length) : frGo p (p.arrays.take (k + 1)) = frStep (frImg p) (frGo p (p.arrays.take k)) (p.arrays.getD k arrNone) := by
  unfold frGo
  rw [take_succ_getD p.arrays k arrNone h, List.foldl_append]; rfl
end Go.Proofs.Ytiaimceefkdchaa
