/- Contracts of the document's New, find and byteAt. No condition but those that each theorem names. -/
import Derived.Test.YtgipelnjbpkfjaaByteAt
namespace Go.Proofs.Ytgipelnjbpkfjaa
open Go.RowKit
theorem bnew (w : World) (o : Obj) : Below w.heap.size w (w.alloc o) := (Below.refl _ _).alloc (Nat.le_refl _) o
theorem bdrawn1 {B : Nat} {a w : World} (h : Below B a w) : Below B a w.drew := ⟨h.os, h.tape, h.output, h.size, h.block⟩
theorem ref07_New (i o r : Int) (flash input : ByteArray) (hr : -9223372036854775808 ≤ r ∧ r ≤ 9223372036854775807) (w : World) :
    Calls Try.prog 30 #[startVal i o r flash input] w fun e w' => e = .returned (.int .i64 (newErr i o r flash.size input.size)) ∧ Below w.heap.size w w' := by
  have HC := Lib.hid (fun W => ref05_Check i o r flash.size hr W)
  unfold newErr startVal
  generalize mmCheck i o r flash.size = ck at *
  clear hr
  go_enter Try.func30, Try.ntmps30
  go_wp2_with fail
  refine (HC.out _).mono ?_
  rintro e w2 ⟨rfl, hb⟩
  have hx := (hb.block w.heap.size (by simp)).trans (heap_alloc_new w _)
  have c0 : w2.cell? ⟨w.heap.size, 0, none⟩ = some (.int .i64 i) := (cell_of_blk hx 0).1
  have c4 : w2.cell? ⟨w.heap.size, 4, none⟩ = some (.string input) := (cell_of_blk hx 4).1
  have HB := Lib.hid (bch ((Below.refl _ _).alloc (Nat.le_refl _) _) hb)
  clear hb hx
  by_cases h : ck = 0
  · subst h
    by_cases h2 : (input.size : Int) = i
    · subst h2
      go_wp2
      go_ret
      exact ⟨by simp, HB.out⟩
    · have hq : ((input.size : Int) != i) = true := by rw [bne_iff_ne]; exact h2
      go_wp2
      go_ret
      exact ⟨by simp, HB.out⟩
  · have hq : (ck == 0) = false := by rw [beq_eq_false_iff_ne]; exact h
    go_wp2
    go_ret
    exact ⟨by simp, HB.out⟩
theorem ref07_find (i o r : Int) (flash input : ByteArray) (a n : Int) (write : Bool) (hr : -9223372036854775808 ≤ r ∧ r ≤ 9223372036854775807) (hck : mmCheck i o r flash.size = 0) (ha : a ≤ 9223372036854775807) (w : World) :
    Calls Try.prog 50 #[startVal i o r flash input, .int .i64 a, .int .i64 n, .bool write] w fun e w' => e = .returned (.int .i64 (mmFind (mmRegions i o r flash.size) a n write).2) ∧ Below w.heap.size w w' := by
  have HC := Lib.hid (fun W => ref05_Regions_yes i o r flash.size hr hck W)
  have HF := Lib.hid (fun W A h => ref05_Find A 7 (mmRegions i o r flash.size) a n write (by show (7 : Nat) ≤ _; decide) (fine_of i o r flash.size hck) ha W h)
  have HL : Hid ((mmRegions i o r flash.size).length = 7) := Lib.hid rfl
  unfold pairVal at HF
  generalize mmFind (mmRegions i o r flash.size) a n write = U at *
  obtain ⟨k, e⟩ := U
  unfold startVal
  clear hr hck ha
  go_enter Try.func50, Try.ntmps50
  go_wp2_with fail
  refine (HC.out _).mono ?_
  rintro e2 w2 ⟨g, rfl, hg, hge, hb⟩
  have HB := Lib.hid (bch ((Below.refl _ _).alloc (Nat.le_refl _) _) hb)
  have HRG := Lib.hid (rgSl_of hg)
  clear hb hg hge
  go_wp2_with fail
  refine (HF.out _ _ HRG.out).mono ?_
  rintro e2 w3 ⟨rfl, hb⟩
  have HB3 := Lib.hid (bch HB.out hb)
  clear hb
  go_wp2
  go_ret
  exact ⟨rfl, HB3.out⟩
theorem StSl.take {w : World} {B : Nat} {A : Option Addr} {xs : List St} (h : StSl w B A xs) (k : Nat) : StSl w B A (xs.take k) := by
  intro hne
  obtain ⟨b, off, e, hb, hc⟩ := h (by rintro rfl; simp at hne)
  refine ⟨b, off, e, hb, fun j hj => ?_⟩
  rw [List.length_take] at hj
  have := hc j (by omega)
  rw [show (xs.take k).getD j stNone = xs.getD j stNone by rw [List.getD_eq_getElem?_getD, List.getD_eq_getElem?_getD, List.getElem?_take, if_pos (by omega)]]
  exact this
end Go.Proofs.Ytgipelnjbpkfjaa
