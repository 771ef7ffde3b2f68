/- Plain facts on what Build and Parse of images answer. No program is walked here. -/
import Derived.Test.YtgipelnjbpkfjaaImage
namespace Go.Proofs.Ytgipelnjbpkfjaa
open Go.RowKit

/-- The image of code, or the error. -/
def imgBuild (h : Hd) (code : ByteArray) : ByteArray × Int := if imgCheck h (64 + code.size : Nat) ≠ 0 then (ByteArray.empty, imgCheck h (64 + code.size : Nat)) else (refFront h 16 ++ code, 0)
/-- An image's head, or the error. -/
def imgParse (s : ByteArray) : Hd × Int :=
  if s.size < 64 then (hd0, 3) else if (imgBuild (headOf s) (s.extract 64 s.size)).2 ≠ 0 ∨ (imgBuild (headOf s) (s.extract 64 s.size)).1 ≠ s then (hd0, 4) else (headOf s, 0)
theorem fit_of_check (h : Hd) (n : Int) (hc : imgCheck h n = 0) : h.fit := by
  unfold imgCheck at hc
  by_cases hm : mmCheck h.i h.o h.r n = 0
  · rw [if_neg (by simpa using hm)] at hc
    by_cases hb : imgBad h n = true
    · rw [if_pos hb] at hc; omega
    · have hb' : imgBad h n = false := by simpa using hb
      unfold imgBad at hb'
      simp only [Bool.or_eq_false_iff, Bool.not_eq_false', imgPlace_iff, decide_eq_false_iff_not] at hb'
      unfold mmCheck szBad at hm
      split at hm
      · omega
      · split at hm
        · omega
        · unfold Hd.fit; omega
  · rw [if_pos hm] at hc; exact absurd hc hm
theorem extract_size (s : ByteArray) (hs : 64 ≤ s.size) : 64 + (s.extract 64 s.size).size = s.size := by rw [ByteArray.size_extract]; omega
/-- Is each word ahead what the head says? -/
def frontOk (s : ByteArray) : Bool := (List.range 16).all fun k => lWord s.data.toList k == (frontWords (headOf s)).getD k 0
theorem frontOk_iff (s : ByteArray) : frontOk s = true ↔ ∀ k, k < 16 → lWord s.data.toList k = (frontWords (headOf s)).getD k 0 := by
  unfold frontOk
  rw [List.all_eq_true]
  simp only [List.mem_range, beq_iff_eq]
/-- What the program's Parse answers is that. -/
theorem parse_prog (s : ByteArray) (hs : 64 ≤ s.size) : imgParse s = if imgCheck (headOf s) (s.size : Nat) ≠ 0 then (hd0, 4) else if frontOk s then (headOf s, 0) else (hd0, 4) := by
  unfold imgParse imgBuild
  rw [if_neg (by omega), extract_size s hs]
  by_cases hc : imgCheck (headOf s) (s.size : Nat) = 0
  · rw [if_neg (show ¬ imgCheck (headOf s) (s.size : Nat) ≠ 0 by simpa using hc), if_neg (show ¬ imgCheck (headOf s) (s.size : Nat) ≠ 0 by simpa using hc)]
    simp only [ne_eq, not_true_eq_false, false_or]
    have hi := image_iff _ (fit_of_check _ _ hc) s hs
    rw [← frontOk_iff] at hi
    by_cases hk : refFront (headOf s) 16 ++ s.extract 64 s.size = s
    · rw [if_neg (by simpa using hk), hi.1 hk, if_pos rfl]
    · rw [if_pos hk, if_neg (fun h => hk (hi.2 h))]
  · rw [if_pos hc, if_pos hc]; simp [hc]
theorem append_extract (a b : ByteArray) (n : Nat) (h : a.size = n) : (a ++ b).extract n (a ++ b).size = b := by
  apply ByteArray.ext
  apply Array.toList_inj.1
  simp only [ByteArray.data_extract, Array.toList_extract, ByteArray.toList_data_append, List.extract_eq_take_drop]
  have hl : a.data.toList.length = n := by rw [Array.length_toList, ByteArray.size_data, h]
  rw [List.drop_append_of_le_length (by omega), List.drop_of_length_le (by omega), List.nil_append, List.take_of_length_le]
  rw [Array.length_toList, ByteArray.size_data, ByteArray.size_append]; omega
theorem front_size (h : Hd) : (refFront h 16).size = 64 := refFront_size h 16
theorem build_size (h : Hd) (code : ByteArray) (he : (imgBuild h code).2 = 0) : (imgBuild h code).1.size = 64 + code.size := by
  unfold imgBuild at *
  split at he
  · rename_i hc; exact absurd he hc
  · rename_i hc; rw [if_neg hc]; simp only; rw [ByteArray.size_append, front_size]
theorem build_ok (h : Hd) (code : ByteArray) (he : (imgBuild h code).2 = 0) : imgBuild h code = (refFront h 16 ++ code, 0) ∧ imgCheck h (64 + code.size : Nat) = 0 := by
  unfold imgBuild at *
  split at he
  · rename_i hc; exact absurd he hc
  · rename_i hc; rw [if_neg hc]; exact ⟨rfl, by simpa using hc⟩
theorem build_no (h : Hd) (code : ByteArray) (he : (imgBuild h code).2 ≠ 0) : (imgBuild h code).1 = ByteArray.empty := by
  unfold imgBuild at *
  split
  · rfl
  · rename_i hc; rw [if_neg hc] at he; exact absurd rfl he
/-- What is built is parsed as the head. -/
theorem parse_build (h : Hd) (code : ByteArray) (he : (imgBuild h code).2 = 0) : imgParse (imgBuild h code).1 = (h, 0) := by
  obtain ⟨e, hc⟩ := build_ok h code he
  have hf := fit_of_check _ _ hc
  rw [e]
  simp only
  have hs : (refFront h 16 ++ code).size = 64 + code.size := by rw [ByteArray.size_append, front_size]
  have hx := append_extract (refFront h 16) code 64 (front_size h)
  have hi := (image_iff h hf (refFront h 16 ++ code) (by omega)).1 (by rw [hx])
  have hh : headOf (refFront h 16 ++ code) = h := by
    obtain ⟨a1, a2, a3, b1, b2, b3, _⟩ := hf
    unfold headOf
    rw [hi 1 (by omega), hi 3 (by omega), hi 7 (by omega), hi 8 (by omega), hi 9 (by omega), hi 10 (by omega)]
    unfold frontWords
    simp only [List.getD, List.getElem?_cons_succ, List.getElem?_cons_zero, Option.getD_some]
    rw [or_one _ a1 (by omega) a3, or_one _ b1 (by omega) b3]
    simp only [Int.add_sub_cancel]
  rw [parse_prog _ (by omega), (frontOk_iff _).2 (by rw [hh]; exact hi), hh, hs, if_neg (by simpa using hc), if_pos rfl]
theorem parse_ok (t : ByteArray) (h : (imgParse t).2 = 0) : 64 ≤ t.size ∧ imgBuild (imgParse t).1 (t.extract 64 t.size) = (t, 0) := by
  unfold imgParse at *
  split at h
  · simp at h
  · split at h
    · simp at h
    · rename_i h1 h2
      rw [if_neg h1, if_neg h2]
      simp only [ne_eq, not_or, Decidable.not_not] at h2
      exact ⟨by omega, Prod.ext h2.2 h2.1⟩
theorem parse_no (t : ByteArray) (h : (imgParse t).2 ≠ 0) : (imgParse t).1 = hd0 := by
  unfold imgParse at *
  split
  · rfl
  · rename_i h1
    rw [if_neg h1] at h
    split
    · rfl
    · rename_i h2; rw [if_neg h2] at h; exact absurd rfl h
/-- A text with one byte laid anew. -/
def byteAnew (s : ByteArray) (k : Nat) (b : UInt8) : ByteArray := (s.extract 0 k ++ ⟨#[b]⟩) ++ s.extract (k + 1) s.size
theorem byteAnew_list (s : ByteArray) (k : Nat) (b : UInt8) (hk : k < s.size) : (byteAnew s k b).data.toList = s.data.toList.take k ++ b :: s.data.toList.drop (k + 1) := by
  have hl : s.data.toList.length = s.size := by rw [Array.length_toList, ByteArray.size_data]
  unfold byteAnew
  simp only [ByteArray.toList_data_append, ByteArray.data_extract, Array.toList_extract, List.extract_eq_take_drop]
  rw [List.take_of_length_le (l := List.drop (k + 1) s.data.toList) (by rw [List.length_drop]; omega)]
  simp
theorem byteAnew_size (s : ByteArray) (k : Nat) (b : UInt8) (hk : k < s.size) : (byteAnew s k b).size = s.size := by
  have hl : s.data.toList.length = s.size := by rw [Array.length_toList, ByteArray.size_data]
  rw [← ByteArray.size_data, ← Array.length_toList, byteAnew_list s k b hk]
  simp only [List.length_append, List.length_take, List.length_cons, List.length_drop, hl]; omega
theorem byteAnew_rest (s : ByteArray) (k : Nat) (b : UInt8) (hk : k < 64) (hs : 64 ≤ s.size) : (byteAnew s k b).extract 64 (byteAnew s k b).size = s.extract 64 s.size := by
  have hl : s.data.toList.length = s.size := by rw [Array.length_toList, ByteArray.size_data]
  apply ByteArray.ext
  apply Array.toList_inj.1
  rw [byteAnew_size s k b (by omega)]
  simp only [ByteArray.data_extract, Array.toList_extract, List.extract_eq_take_drop]
  rw [byteAnew_list s k b (by omega)]
  have h1 : (s.data.toList.take k).length = k := by rw [List.length_take, hl]; omega
  rw [List.drop_append, h1, List.drop_of_length_le (by omega), List.nil_append, show 64 - k = (63 - k) + 1 by omega, List.drop_succ_cons, List.drop_drop]
  congr 2; omega
theorem byteAnew_same (s : ByteArray) (k : Nat) (b : UInt8) (hk : k < s.size) : byteAnew s k b = s ↔ b = s[k] := by
  have hl : s.data.toList.length = s.size := by rw [Array.length_toList, ByteArray.size_data]
  have hs : s.data.toList = s.data.toList.take k ++ s[k] :: s.data.toList.drop (k + 1) := by
    conv => lhs; rw [← List.take_append_drop k s.data.toList, List.drop_eq_getElem_cons (by omega)]
    rfl
  constructor
  · intro h
    have h2 := byteAnew_list s k b hk
    rw [h] at h2
    have h3 : s.data.toList.take k ++ s[k] :: s.data.toList.drop (k + 1) = s.data.toList.take k ++ b :: s.data.toList.drop (k + 1) := hs.symm.trans h2
    have h4 := List.append_cancel_left h3
    injection h4 with h5 _
    exact h5.symm
  · rintro rfl
    apply ByteArray.ext
    apply Array.toList_inj.1
    rw [byteAnew_list s k _ hk]
    exact hs.symm
/-- What ImageBack asks of a text with one byte laid anew. -/
theorem back_yes (h : Hd) (code : ByteArray) (he : (imgBuild h code).2 = 0) (k : Nat) (hk : k < 64) (b : UInt8) (hk' : k < (imgBuild h code).1.size) (hp : (imgParse (byteAnew (imgBuild h code).1 k b)).2 = 0) :
    (b = (imgBuild h code).1[k]) ↔ (imgParse (byteAnew (imgBuild h code).1 k b)).1 = h := by
  have hs := build_size h code he
  rw [← byteAnew_same _ _ _ hk']
  constructor
  · intro e; rw [e, parse_build h code he]
  · intro e
    obtain ⟨_, h2⟩ := parse_ok _ hp
    rw [e, byteAnew_rest _ _ _ hk (by omega)] at h2
    have h3 : (imgBuild h code).1.extract 64 (imgBuild h code).1.size = code := by
      rw [(build_ok h code he).1]; exact append_extract _ _ _ (front_size h)
    rw [h3] at h2
    have := congrArg Prod.fst h2
    exact this.symm
theorem back_no (h : Hd) (code : ByteArray) (he : (imgBuild h code).2 = 0) (k : Nat) (b : UInt8) (hk' : k < (imgBuild h code).1.size) (hp : (imgParse (byteAnew (imgBuild h code).1 k b)).2 ≠ 0) :
    b ≠ (imgBuild h code).1[k] := by
  intro e
  rw [← byteAnew_same _ _ _ hk'] at e
  rw [e, parse_build h code he] at hp
  exact hp rfl
end Go.Proofs.Ytgipelnjbpkfjaa
