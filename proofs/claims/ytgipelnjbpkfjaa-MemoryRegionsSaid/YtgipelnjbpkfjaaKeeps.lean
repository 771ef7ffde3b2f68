/- What one store leaves of the loads about it. -/
import Derived.Test.YtgipelnjbpkfjaaFlash
namespace Go.Proofs.Ytgipelnjbpkfjaa
open Lib Machine
/-- A load's error does not look at the bytes. -/
theorem load_err (i o r f : Int) (bs bs' : List UInt8) (a n : Int) : (loadRes i o r f bs a n).2 = (loadRes i o r f bs' a n).2 := by
  unfold loadRes
  split
  · rfl
  · split <;> rfl
/-- A store that is refused changes nothing. -/
theorem store_no (i o r f : Int) (bs : List UInt8) (a n v : Int) (h : storeErr i o r f a n ≠ 0) : storeBs i o r f bs a n v = bs := by
  unfold storeBs
  rw [if_pos h]
theorem store_yes (i o r f : Int) (bs : List UInt8) (a n v : Int) (h : storeErr i o r f a n = 0) : storeBs i o r f bs a n v = putBytes bs (accPos i o r f a n true) n.toNat v := by
  unfold storeBs
  rw [if_neg (by omega)]
/-- Where a store goes, a load goes. -/
theorem seek_wr (a n : Int) : ∀ (xs : List Rg) (j : Nat), (mmSeek a n true xs j).2 = 0 → mmSeek a n false xs j = mmSeek a n true xs j
  | [], j, h => by unfold mmSeek at h; simp at h
  | x :: xs, j, h => by
    unfold mmSeek at h ⊢
    by_cases hb : hasB x a n = true
    · rw [if_pos hb] at h
      rw [if_pos hb, if_pos hb]
      split at h
      · simp at h
      · rename_i hq
        rw [if_neg hq, if_neg (by simp)]
    · rw [if_neg hb] at h
      rw [if_neg hb, if_neg hb]
      exact seek_wr a n xs (j + 1) h
theorem find_wr (xs : List Rg) (a n : Int) (h : (mmFind xs a n true).2 = 0) : mmFind xs a n false = mmFind xs a n true := by
  unfold mmFind at h ⊢
  split at h
  · simp at h
  · rename_i h1
    split at h
    · simp at h
    · rename_i h2
      rw [if_neg h1, if_neg h1, if_neg h2, if_neg h2]
      exact seek_wr a n xs 0 h
theorem acc_wr (i o r f a n : Int) (h : storeErr i o r f a n = 0) : accPos i o r f a n false = accPos i o r f a n true := by
  unfold accPos
  rw [find_wr _ _ _ h]
/-- The bytes of a store, one by one. -/
theorem putBytes_in (bs : List UInt8) (q m j : Nat) (v : Int) (hm : m ≤ 4) (h : q + m ≤ bs.length) (hj : j < m) : (putBytes bs q m v).getD (q + j) 0 = (wList v).getD j 0 := by
  have hw : (wList v).length = 4 := rfl
  unfold putBytes
  simp only [List.getD_eq_getElem?_getD]
  rw [List.getElem?_append_right (by rw [List.length_take]; omega), List.length_take, Nat.min_eq_left (by omega), Nat.add_sub_cancel_left, List.getElem?_append_left (by rw [List.length_take]; omega), List.getElem?_take, if_pos hj]
theorem putBytes_out (bs : List UInt8) (q m t : Nat) (v : Int) (hm : m ≤ 4) (h : q + m ≤ bs.length) (ht : t < q ∨ q + m ≤ t) : (putBytes bs q m v).getD t 0 = bs.getD t 0 := by
  have hw : (wList v).length = 4 := rfl
  unfold putBytes
  simp only [List.getD_eq_getElem?_getD]
  rcases ht with ht | ht
  · rw [List.getElem?_append_left (by rw [List.length_take]; omega), List.getElem?_take, if_pos ht]
  · rw [List.getElem?_append_right (by rw [List.length_take]; omega), List.length_take, Nat.min_eq_left (by omega), List.getElem?_append_right (by rw [List.length_take]; omega), List.length_take, List.getElem?_drop]
    congr 2
    omega
/-- What a load answers, by the byte's place. -/
theorem load_one (i o r f b : Int) (bs : List UInt8) (h : (mmFind (mmRegions i o r f) b 1 false).2 = 0) : loadRes i o r f bs b 1 = (((bs.getD (accPos i o r f b 1 false) 0).toNat : Int), 0) := by
  unfold loadRes
  rw [if_neg (by omega), if_pos rfl]
theorem load_bad (i o r f b n : Int) (bs : List UInt8) (h : (mmFind (mmRegions i o r f) b n false).2 ≠ 0) : loadRes i o r f bs b n = (0, (mmFind (mmRegions i o r f) b n false).2) := by
  unfold loadRes
  rw [if_pos h]
/-- A load of one byte outside the bytes of a store answers as before. -/
theorem load_far (i o r f a n v b : Int) (bs : List UInt8) (hl : bs.length = rgAll i o r f) (hout : storeErr i o r f a n = 0 → (mmFind (mmRegions i o r f) b 1 false).2 = 0 → accPos i o r f b 1 false < accPos i o r f a n true ∨ accPos i o r f a n true + n.toNat ≤ accPos i o r f b 1 false) :
    loadRes i o r f (storeBs i o r f bs a n v) b 1 = loadRes i o r f bs b 1 := by
  by_cases hb : (mmFind (mmRegions i o r f) b 1 false).2 = 0
  · by_cases hs : storeErr i o r f a n = 0
    · obtain ⟨_, h2, h3⟩ := store_pos i o r f a n hs
      rw [load_one _ _ _ _ _ _ hb, load_one _ _ _ _ _ _ hb, store_yes _ _ _ _ _ _ _ _ hs, putBytes_out _ _ _ _ _ (by omega) (by omega) (hout hs hb)]
    · rw [store_no _ _ _ _ _ _ _ _ hs]
  · rw [load_bad _ _ _ _ _ _ _ hb, load_bad _ _ _ _ _ _ _ hb]
/-- A load of what was stored. -/
theorem load_same (i o r f a n v : Int) (bs : List UInt8) (hl : bs.length = rgAll i o r f) (hs : storeErr i o r f a n = 0) :
    loadRes i o r f (storeBs i o r f bs a n v) a n = (if n = 1 then ((((wList v).getD 0 0).toNat : Int)) else ((le4 ((wList v).getD 0 0) ((wList v).getD 1 0) ((wList v).getD 2 0) ((wList v).getD 3 0) : Nat) : Int), 0) := by
  obtain ⟨_, h2, h3⟩ := store_pos i o r f a n hs
  have hf : (mmFind (mmRegions i o r f) a n false).2 = 0 := by rw [find_wr _ _ _ hs]; exact hs
  unfold loadRes
  rw [if_neg (by omega), acc_wr _ _ _ _ _ _ hs, store_yes _ _ _ _ _ _ _ _ hs]
  rcases h3 with rfl | rfl
  · have e := putBytes_in bs (accPos i o r f a 1 true) 1 0 v (by omega) (by simpa [hl] using h2) (by omega)
    rw [if_pos rfl, if_pos rfl]
    simp only [Nat.add_zero] at e
    rw [show (1 : Int).toNat = 1 from rfl, e]
  · have e := fun j hj => putBytes_in bs (accPos i o r f a 4 true) 4 j v (by omega) (by simpa [hl] using h2) hj
    have e0 := e 0 (by omega)
    simp only [Nat.add_zero] at e0
    rw [if_neg (by omega), if_neg (by omega), show (4 : Int).toNat = 4 from rfl, e0, e 1 (by omega), e 2 (by omega), e 3 (by omega)]
end Go.Proofs.Ytgipelnjbpkfjaa
