/- Where all lies in a frame: no two arrays meet. Plain facts. -/
import Derived.Test.YtiaimceefkdchaaFrameOf
namespace Go.Proofs.Ytiaimceefkdchaa
open Go.RowKit
set_option linter.unusedVariables false
theorem frGo_prefix (p : Ir) : ∀ (l : List Arr) (s : List Int × Int), ∃ r, (l.foldl (frStep (frImg p)) s).1 = s.1 ++ r
  | [], s => ⟨[], by simp⟩
  | a :: l, s => by
    obtain ⟨r, hr⟩ := frGo_prefix p l (frStep (frImg p) s a)
    rw [List.foldl_cons, hr]
    unfold frStep
    split
    · exact ⟨[a.off] ++ r, by simp⟩
    · split
      · exact ⟨[frImg p + a.off] ++ r, by simp⟩
      · exact ⟨[s.2] ++ r, by simp⟩
/-- Where an array of this number lies. -/
def layP (p : Ir) (i : Nat) : Int := if (p.arrays.getD i arrNone).kind = 1 then (p.arrays.getD i arrNone).off else if (p.arrays.getD i arrNone).kind = 2 then frImg p + (p.arrays.getD i arrNone).off else frImg p + p.out + railSum (p.arrays.take i)
theorem lay_at (p : Ir) (hall : ∀ a ∈ p.arrays, shapedP a ∧ (a.kind = 0 ∨ a.kind = 1 ∨ a.kind = 2)) (i : Nat) (hi : i < p.arrays.length) : (frGo p p.arrays).1[i]? = some (layP p i) := by
  have h1 : frGo p (p.arrays.take (i + 1)) = frStep (frImg p) (frGo p (p.arrays.take i)) (p.arrays.getD i arrNone) := frGo_step p i hi
  have hl : (frGo p (p.arrays.take i)).1.length = i := by
    unfold frGo; rw [frGo_len]; simp; omega
  have hz : (frGo p (p.arrays.take i)).2 = frImg p + p.out + railSum (p.arrays.take i) := by
    unfold frGo; rw [frGo_size p _ _ (fun a ha => hall a (List.mem_of_mem_take ha))]
  have h2 : (frGo p (p.arrays.take (i + 1))).1[i]? = some (layP p i) := by
    rw [h1]
    unfold frStep layP
    split
    · rw [List.getElem?_append_right (by omega), hl]; simp
    · split
      · rw [List.getElem?_append_right (by omega), hl]; simp
      · rw [List.getElem?_append_right (by omega), hl]; simp [hz]
  have h3 : ∃ r, (frGo p p.arrays).1 = (frGo p (p.arrays.take (i + 1))).1 ++ r := by
    have h := frGo_prefix p (p.arrays.drop (i + 1)) (frGo p (p.arrays.take (i + 1)))
    unfold frGo at h ⊢
    rw [← List.foldl_append, List.take_append_drop] at h
    exact h
  obtain ⟨r, hr⟩ := h3
  have hlt : i < (frGo p (p.arrays.take (i + 1))).1.length := (List.getElem?_eq_some_iff.1 h2).1
  rw [hr, List.getElem?_append_left hlt, h2]
theorem bytes_pos {a : Arr} (h : shapedP a) : 0 < a.elem * a.len ∧ a.elem * a.len ≤ 65536 ∧ a.elem * a.len ≤ up4 (a.elem * a.len) := by
  obtain ⟨h1, h2, h3⟩ := h
  unfold up4
  rcases h1 with h1 | h1 <;> rw [h1] <;> omega
theorem railSum_mono (l : List Arr) (j i : Nat) (h : j ≤ i) : railSum (l.take j) ≤ railSum (l.take i) := by
  have := railSum_take (l.take i) j
  rwa [List.take_take, Nat.min_eq_left h] at this
theorem arrStep_le {inp out en : Int} {a : Arr} {e : Int} (h : arrStep inp out en a = some e) : en ≤ e := by
  unfold arrStep at h
  split at h
  · cases h
  · rename_i hs
    have hs : shapedP a := by simpa using hs
    split at h
    · split at h
      · injection h with h; omega
      · cases h
    · split at h
      · split at h
        · injection h with h; omega
        · cases h
      · split at h
        · split at h
          · rename_i h3
            injection h with h
            have := bytes_pos hs
            unfold up4 at h
            omega
          · cases h
        · cases h
theorem arrEnd_at (inp out : Int) (l : List Arr) (h : (arrEnd inp out l 0).isSome = true) (i : Nat) : ∃ e, arrEnd inp out (l.take i) 0 = some e := by
  cases he : arrEnd inp out (l.take i) 0 with
  | some e => exact ⟨e, rfl⟩
  | none => rw [arrEnd_fail inp out l i he] at h; cases h
theorem arrEnd_mono (inp out : Int) (l : List Arr) (h : (arrEnd inp out l 0).isSome = true) (j : Nat) : ∀ d, j + d ≤ l.length → ∀ e f, arrEnd inp out (l.take j) 0 = some e → arrEnd inp out (l.take (j + d)) 0 = some f → e ≤ f
  | 0, hd, e, f, he, hf => by
    rw [Nat.add_zero, he] at hf; injection hf with hf; omega
  | d + 1, hd, e, f, he, hf => by
    obtain ⟨g, hg⟩ := arrEnd_at inp out l h (j + d)
    have := arrEnd_mono inp out l h j d (by omega) e g he hg
    rw [← Nat.add_assoc, arrEnd_step inp out l (j + d) (by omega) g hg] at hf
    have := arrStep_le hf
    omega
/-- What a step of an output's array tells. -/
theorem arrStep_out {inp out en : Int} {a : Arr} {e : Int} (h : arrStep inp out en a = some e) (hk : a.kind = 2) : en ≤ a.off ∧ a.off + a.elem * a.len ≤ out ∧ a.off % 4 = 0 ∧ a.off + a.elem * a.len ≤ e := by
  unfold arrStep at h
  split at h
  · cases h
  · rename_i hs
    have hs : shapedP a := by simpa using hs
    split at h
    · omega
    · split at h
      · omega
      · split at h
        · rename_i h3
          injection h with h
          have := bytes_pos hs
          unfold up4 at h
          omega
        · cases h
def bytesAt (p : Ir) (i : Nat) : Int := (p.arrays.getD i arrNone).elem * (p.arrays.getD i arrNone).len
/-- A byte that is taken: of the signature and the temps, or of an array ahead. -/
def usedP (p : Ir) (i : Nat) (k : Int) : Prop := k < frImg p ∨ ∃ j, j < i ∧ (p.arrays.getD j arrNone).kind ≠ 1 ∧ layP p j ≤ k ∧ k < layP p j + bytesAt p j
structure ApartAt (p : Ir) (i : Nat) : Prop where
  pos : 0 < bytesAt p i
  low : 0 ≤ layP p i
  four : layP p i % 4 = 0
  high : layP p i + bytesAt p i ≤ (frGo p p.arrays).2
  free : ∀ k, layP p i ≤ k → k < layP p i + bytesAt p i → ¬ usedP p i k
  img : (p.arrays.getD i arrNone).kind = 0 → ∀ k, layP p i ≤ k → ¬ (frImg p ≤ k ∧ k < frImg p + p.out)
theorem apart_at (p : Ir) (he : frErr p = 0) (i : Nat) (hi : i < p.arrays.length) (hk : (p.arrays.getD i arrNone).kind ≠ 1) : ApartAt p i := by
  have hir : irErr p = 0 := by
    unfold frErr at he
    by_cases h : irErr p = 0
    · exact h
    · rw [if_pos h] at he; exact absurd he h
  obtain ⟨hng, hm⟩ := irErr_ok hir
  obtain ⟨⟨⟨hi0, hi1, hi2⟩, ⟨ho0, ho1, ho2⟩, hT0, _⟩, hae, _⟩ := hm
  have hall := arrEnd_all p.inp p.out p.arrays 0 hae
  have hsz : (frGo p p.arrays).2 = frImg p + p.out + railSum p.arrays := by
    unfold frGo; rw [frGo_size p _ _ hall]
  have himg : frImg p = 4 + 4 * p.temps := rfl
  have hr4 : ∀ l : List Arr, railSum l % 4 = 0 := by
    intro l
    induction l with
    | nil => rfl
    | cons a l ih =>
      rw [railSum]
      unfold railBytes room up4
      split <;> (try split) <;> omega
  have hrn := fun j => railSum_nonneg (p.arrays.take j)
  have hrt := fun j => railSum_take p.arrays j
  obtain ⟨hs, hkk⟩ := hall _ (getD_memI p.arrays i arrNone hi)
  obtain ⟨b1, b2, b3⟩ := bytes_pos hs
  have hra := railSum_nonneg p.arrays
  -- what lies at each array ahead
  have hlow : ∀ j, j < p.arrays.length → (p.arrays.getD j arrNone).kind = 2 → ∃ e f, arrEnd p.inp p.out (p.arrays.take j) 0 = some e ∧ arrEnd p.inp p.out (p.arrays.take (j + 1)) 0 = some f ∧ 0 ≤ e ∧ e ≤ (p.arrays.getD j arrNone).off ∧ (p.arrays.getD j arrNone).off + bytesAt p j ≤ p.out ∧ (p.arrays.getD j arrNone).off % 4 = 0 ∧ (p.arrays.getD j arrNone).off + bytesAt p j ≤ f := by
    intro j hj h2
    obtain ⟨e, he1⟩ := arrEnd_at p.inp p.out p.arrays hae j
    obtain ⟨f, hf1⟩ := arrEnd_at p.inp p.out p.arrays hae (j + 1)
    have hst := arrEnd_step p.inp p.out p.arrays j hj e he1
    rw [hf1] at hst
    obtain ⟨q1, q2, q3, q4⟩ := arrStep_out hst.symm h2
    have h0 := arrEnd_mono p.inp p.out p.arrays hae 0 j (by omega) 0 e rfl (by rw [Nat.zero_add]; exact he1)
    exact ⟨e, f, he1, hf1, h0, q1, q2, q3, q4⟩
  have hrail : ∀ j, j < p.arrays.length → (p.arrays.getD j arrNone).kind = 0 → railSum (p.arrays.take j) + bytesAt p j ≤ railSum (p.arrays.take (j + 1)) := by
    intro j hj h0
    obtain ⟨hs', _⟩ := hall _ (getD_memI p.arrays j arrNone hj)
    have := bytes_pos hs'
    rw [railSum_step p.arrays j hj]
    unfold railBytes room bytesAt
    rw [if_pos h0, if_pos hs']
    omega
  have hknd : ∀ j, j < p.arrays.length → (p.arrays.getD j arrNone).kind ≠ 1 → (p.arrays.getD j arrNone).kind = 2 ∧ layP p j = frImg p + (p.arrays.getD j arrNone).off ∨ (p.arrays.getD j arrNone).kind = 0 ∧ layP p j = frImg p + p.out + railSum (p.arrays.take j) := by
    intro j hj h1
    obtain ⟨_, hkj⟩ := hall _ (getD_memI p.arrays j arrNone hj)
    unfold layP
    rcases hkj with h | h | h
    · right; rw [if_neg h1, if_neg (by omega)]; exact ⟨h, rfl⟩
    · exact absurd h h1
    · left; rw [if_neg h1, if_pos h]; exact ⟨h, rfl⟩
  have hbi : bytesAt p i = (p.arrays.getD i arrNone).elem * (p.arrays.getD i arrNone).len := rfl
  rcases hknd i hi hk with ⟨k2, hl⟩ | ⟨k0, hl⟩
  · obtain ⟨e, f, he1, hf1, q0, q1, q2, q3, q4⟩ := hlow i hi k2
    refine ⟨by omega, by omega, by omega, by omega, ?_, by intro h; omega⟩
    rintro k hk1 hk2 (h | ⟨j, hji, hj1, hj2, hj3⟩)
    · omega
    · rcases hknd j (by omega) hj1 with ⟨k2', hl'⟩ | ⟨k0', hl'⟩
      · obtain ⟨e', f', he1', hf1', q0', q1', q2', q3', q4'⟩ := hlow j (by omega) k2'
        have := arrEnd_mono p.inp p.out p.arrays hae (j + 1) (i - (j + 1)) (by omega) f' e hf1' (by rw [show j + 1 + (i - (j + 1)) = i by omega]; exact he1)
        omega
      · have := hrn j
        omega
  · have hi1' := hrail i hi k0
    have hi2' := hrt (i + 1)
    have hi3' := hrn i
    have hi4' := hr4 (p.arrays.take i)
    refine ⟨by omega, by omega, by omega, by omega, ?_, by intro _ k hk; omega⟩
    rintro k hk1 hk2 (h | ⟨j, hji, hj1, hj2, hj3⟩)
    · omega
    · rcases hknd j (by omega) hj1 with ⟨k2', hl'⟩ | ⟨k0', hl'⟩
      · obtain ⟨e', f', he1', hf1', q0', q1', q2', q3', q4'⟩ := hlow j (by omega) k2'
        omega
      · have h1 := hrail j (by omega) k0'
        have h2 := railSum_mono p.arrays (j + 1) i (by omega)
        omega
end Go.Proofs.Ytiaimceefkdchaa
