/- What the document's byteAt tells is what the memory's bytes are. Plain facts. -/
import Derived.Test.YtgipelnjbpkfjaaKeeps2
namespace Go.Proofs.Ytgipelnjbpkfjaa
open Go.RowKit
set_option linter.unusedVariables false
def strAt (s : ByteArray) (q : Nat) : UInt8 := s.data.toList.getD q 0
def hitB (i o r f : Int) (x : St) (a : Int) : Prop := x.kind ≠ 0 ∧ x.a ≤ a ∧ a < x.a + x.n ∧ storeErr i o r f x.a x.n = 0
instance (i o r f : Int) (x : St) (a : Int) : Decidable (hitB i o r f x a) := by unfold hitB; infer_instance
def baseByte (flash input : ByteArray) (a : Int) : Int := if a < flash.size then ((strAt flash a.toNat).toNat : Int) else if 536936448 ≤ a ∧ a < 536936448 + input.size then ((strAt input (a - 536936448).toNat).toNat : Int) else 0
def stByte (x : St) (a : Int) : Int := (x.v % 4294967296) / 2 ^ (8 * (a - x.a).toNat) % 256
/-- The document's answer; the steps are given from the last one on. -/
def refByte (i o r : Int) (flash input : ByteArray) : List St → Int → Int
  | [], a => baseByte flash input a
  | x :: l, a => if hitB i o r flash.size x a then stByte x a else refByte i o r flash input l a
theorem init_byte (i o r a : Int) (flash input : ByteArray) (hck : mmCheck i o r flash.size = 0) (hin : (input.size : Int) = i) (hf : (mmFind (mmRegions i o r flash.size) a 1 false).2 = 0) :
    loadRes i o r flash.size (memInit flash input (rgAll i o r flash.size)) a 1 = (baseByte flash input a, 0) := by
  obtain ⟨k, p, hacc⟩ := find_access i o r flash.size a 1 false hf
  have hp := access_pos hacc
  obtain ⟨_, hk, h2, h3, _⟩ := hacc
  obtain ⟨c1, c2, c3, c4⟩ := check_ok hck
  have hfl : flash.data.toList.length = flash.size := by rw [Array.length_toList, ByteArray.size_data]
  have hil : input.data.toList.length = input.size := by rw [Array.length_toList, ByteArray.size_data]
  have e0 : rgOff i o r flash.size 0 = 0 := rfl
  have e1 : rgOff i o r flash.size 1 = flash.size := by rw [rgOff_step i o r flash.size 0, e0]; show 0 + ((flash.size : Int)).toNat = _; omega
  have e2 : rgOff i o r flash.size 2 = flash.size + input.size := by rw [rgOff_step i o r flash.size 1, e1]; show flash.size + i.toNat = _; omega
  rw [load_one _ _ _ _ _ _ hf, hp]
  refine Prod.ext ?_ rfl
  show _ = baseByte flash input a
  have hc : k = 0 ∨ k = 1 ∨ 2 ≤ k := by omega
  rcases hc with rfl | rfl | hc
  · change a - 0 = (p : Int) at h2
    change (p : Int) + 1 ≤ (flash.size : Int) at h3
    unfold baseByte strAt memInit
    rw [if_pos (by omega), e0, List.getD_eq_getElem?_getD, List.getElem?_append_left (by omega), List.getD_eq_getElem?_getD]
    rw [show 0 + p = a.toNat by omega]
  · change a - 536936448 = (p : Int) at h2
    change (p : Int) + 1 ≤ i at h3
    unfold baseByte strAt memInit
    rw [if_neg (by omega), if_pos (by omega), e1, List.getD_eq_getElem?_getD, List.getElem?_append_right (by omega), List.getElem?_append_left (by omega), List.getD_eq_getElem?_getD]
    rw [show flash.size + p - flash.data.toList.length = (a - 536936448).toNat by omega]
  · have hb : 537001984 ≤ (rgNth i o r flash.size k).base := by
      have hk7 : k = 2 ∨ k = 3 ∨ k = 4 ∨ k = 5 ∨ k = 6 := by omega
      rcases hk7 with rfl | rfl | rfl | rfl | rfl <;> simp [rgNth, mmRegions]
    have hmo : flash.size + input.size ≤ rgOff i o r flash.size k := by
      rw [← e2]
      rcases Nat.lt_or_ge 2 k with q | q
      · have := rgOff_lt i o r flash.size 2 k q; omega
      · obtain rfl : k = 2 := by omega
        exact Nat.le_refl _
    unfold baseByte memInit
    rw [if_neg (by omega), if_neg (by omega), List.getD_eq_getElem?_getD, List.getElem?_append_right (by omega), List.getElem?_append_right (by omega)]
    cases hq : (List.replicate (rgAll i o r flash.size - flash.size - input.size) (0 : UInt8))[rgOff i o r flash.size k + p - flash.data.toList.length - input.data.toList.length]? with
    | none => rfl
    | some u =>
      have := List.mem_of_getElem? hq
      rw [(List.mem_replicate.1 this).2]
      rfl
theorem play_len (i o r : Int) (flash input : ByteArray) (hck : mmCheck i o r flash.size = 0) (hin : (input.size : Int) = i) (l : List St) : (playBs i o r flash.size (memInit flash input (rgAll i o r flash.size)) l).length = rgAll i o r flash.size :=
  (playBs_keep i o r flash.size l _ (init_len i o r flash input hck hin).1).1
/-- A byte, behind any steps. -/
theorem play_byte (i o r a : Int) (flash input : ByteArray) (hck : mmCheck i o r flash.size = 0) (hin : (input.size : Int) = i) (hf : (mmFind (mmRegions i o r flash.size) a 1 false).2 = 0) :
    ∀ l : List St, loadRes i o r flash.size (playBs i o r flash.size (memInit flash input (rgAll i o r flash.size)) l.reverse) a 1 = (refByte i o r flash input l a, 0)
  | [] => init_byte i o r a flash input hck hin hf
  | x :: l => by
    have ih := play_byte i o r a flash input hck hin hf l
    have hl := play_len i o r flash input hck hin l.reverse
    have e : playBs i o r flash.size (memInit flash input (rgAll i o r flash.size)) (x :: l).reverse = stepBs i o r flash.size (playBs i o r flash.size (memInit flash input (rgAll i o r flash.size)) l.reverse) x := by
      rw [List.reverse_cons]; unfold playBs; rw [List.foldl_append]; rfl
    rw [e]
    generalize playBs i o r flash.size (memInit flash input (rgAll i o r flash.size)) l.reverse = bs at *
    unfold stepBs refByte
    by_cases hk : x.kind = 0
    · rw [if_pos hk, if_neg (by unfold hitB; omega)]; exact ih
    · rw [if_neg hk]
      by_cases hh : hitB i o r flash.size x a
      · rw [if_pos hh]
        obtain ⟨_, h1, h2, h3⟩ := hh
        exact keeps_byte x.a x.n x.v a bs hck hl h3 h1 h2
      · rw [if_neg hh, keeps_far x.a x.n x.v a bs hl (by unfold hitB at hh; omega)]
        exact ih
/-- What a load answers is told by its bytes. -/
theorem load_word (i o r a : Int) (f : Nat) (bs : List UInt8) (B : Int → Int) (hck : mmCheck i o r f = 0) (hf : (mmFind (mmRegions i o r f) a 4 false).2 = 0) (h : ∀ b, (mmFind (mmRegions i o r f) b 1 false).2 = 0 → loadRes i o r f bs b 1 = (B b, 0)) :
    loadRes i o r f bs a 4 = (B a + 256 * B (a + 1) + 65536 * B (a + 2) + 16777216 * B (a + 3), 0) := by
  obtain ⟨k, p, hacc⟩ := find_access i o r f a 4 false hf
  have hp := access_pos hacc
  have h1 := hacc.1
  obtain ⟨_, hk, h2, h3, _⟩ := hacc
  have hfine := fine_of i o r f hck
  have hb : 0 ≤ (rgNth i o r f k).base := (hfine _ (by
    unfold rgNth
    have hlt : k < (mmRegions i o r f).length := hk
    rw [List.getD, List.getElem?_eq_getElem hlt]; exact List.getElem_mem hlt)).1
  obtain ⟨_, hw⟩ := word_bytes hck h1 (by omega)
  have hone : ∀ t : Nat, t < 4 → (((bs.getD (rgOff i o r f k + p + t) 0).toNat : Int)) = B (a + t) := by
    intro t ht
    have hff : mmFind (mmRegions i o r f) (a + t) 1 false = ((k : Int), 0) := by rw [find_one]; exact hw t ht
    have h4 := h (a + t) (by rw [hff])
    rw [load_one _ _ _ _ _ _ (by rw [hff]), access_pos (k := k) (p := p + t) ⟨hff, hk, by omega, by omega, Or.inl rfl⟩, ← Nat.add_assoc] at h4
    exact (Prod.ext_iff.1 h4).1
  have g0 : (((bs.getD (rgOff i o r f k + p) 0).toNat : Int)) = B a := by
    have h5 := hone 0 (by omega)
    rw [show a + ((0 : Nat) : Int) = a from by omega] at h5
    exact h5
  have g1 : (((bs.getD (rgOff i o r f k + p + 1) 0).toNat : Int)) = B (a + 1) := hone 1 (by omega)
  have g2 : (((bs.getD (rgOff i o r f k + p + 2) 0).toNat : Int)) = B (a + 2) := hone 2 (by omega)
  have g3 : (((bs.getD (rgOff i o r f k + p + 3) 0).toNat : Int)) = B (a + 3) := hone 3 (by omega)
  unfold loadRes
  rw [if_neg (by rw [h1]; simp), if_neg (by omega), hp]
  refine Prod.ext ?_ rfl
  show ((le4 _ _ _ _ : Nat) : Int) = B a + 256 * B (a + 1) + 65536 * B (a + 2) + 16777216 * B (a + 3)
  unfold le4
  rw [← g0, ← g1, ← g2, ← g3]
  omega
/-- A region's byte. -/
theorem rg_byte (i o r : Int) (f : Nat) (bs : List UInt8) (hck : mmCheck i o r f = 0) (k t : Nat) (hk : k < 7) (ht : (t : Int) < (rgNth i o r f k).len) :
    (mmFind (mmRegions i o r f) ((rgNth i o r f k).base + t) 1 false).2 = 0 ∧ loadRes i o r f bs ((rgNth i o r f k).base + t) 1 = (((bs.getD (rgOff i o r f k + t) 0).toNat : Int), 0) := by
  have hh : hasB ((mmRegions i o r f).getD k rgNone) ((rgNth i o r f k).base + t) 1 = true := by
    unfold rgNth at ht ⊢
    unfold hasB
    simp only [Bool.and_eq_true, decide_eq_true_eq]
    omega
  have hff : mmFind (mmRegions i o r f) ((rgNth i o r f k).base + t) 1 false = ((k : Int), 0) := by rw [find_one]; exact seek_hits hck (by decide) k hk hh (Or.inl (rfl : false = false))
  refine ⟨by rw [hff], ?_⟩
  rw [load_one _ _ _ _ _ _ (by rw [hff]), access_pos (k := k) (p := t) ⟨hff, hk, by omega, by omega, Or.inl rfl⟩]
theorem found_range {i o r a n : Int} {f : Nat} {write : Bool} (hck : mmCheck i o r f = 0) (hf : (mmFind (mmRegions i o r f) a n write).2 = 0) : 0 ≤ a ∧ a ≤ 538968064 + 65536 ∧ (n = 1 ∨ n = 4) := by
  obtain ⟨k, p, hacc⟩ := find_access i o r f a n write hf
  obtain ⟨_, hk, h2, h3, hn⟩ := hacc
  obtain ⟨c1, c2, c3, c4⟩ := check_ok hck
  have hk7 : k = 0 ∨ k = 1 ∨ k = 2 ∨ k = 3 ∨ k = 4 ∨ k = 5 ∨ k = 6 := by omega
  rcases hk7 with rfl | rfl | rfl | rfl | rfl | rfl | rfl <;> simp [rgNth, mmRegions] at h2 h3 <;> omega
end Go.Proofs.Ytgipelnjbpkfjaa
