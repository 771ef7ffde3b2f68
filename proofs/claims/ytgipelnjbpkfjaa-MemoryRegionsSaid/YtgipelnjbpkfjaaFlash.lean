/- Plain facts on what stores leave of the flash; a memory's start that comes in as an argument. -/
import Derived.Test.YtgipelnjbpkfjaaPlay
import Derived.Test.YtgipelnjbpkfjaaHdOpen
namespace Go.Proofs.Ytgipelnjbpkfjaa
open Go.ChangeShapes Go.WideShapes Go.ChangeAt Go.RowKit
set_option linter.unusedVariables false

theorem mmSeek_write (a n : Int) : ∀ (xs : List Rg) (j : Nat) (p : Int × Int), mmSeek a n true xs j = p → p.2 = 0 → ∃ k : Nat, p.1 = ((j + k : Nat) : Int) ∧ k < xs.length ∧ (xs.getD k rgNone).write = true
  | [], j, p, h, h0 => by
    unfold mmSeek at h; rw [← h] at h0; simp at h0
  | x :: xs, j, p, h, h0 => by
    unfold mmSeek at h
    by_cases hb : hasB x a n = true
    · rw [if_pos hb] at h
      cases hw : x.write
      · rw [hw] at h; simp at h; rw [← h] at h0; simp at h0
      · rw [hw] at h; simp at h; exact ⟨0, by rw [← h]; simp, by simp, by simpa using hw⟩
    · rw [if_neg hb] at h
      obtain ⟨k, h1, h2, h3⟩ := mmSeek_write a n xs (j + 1) p h h0
      exact ⟨k + 1, by rw [h1]; congr 1; omega, by simp; omega, by simpa using h3⟩
theorem rgOff_mono (i o r f : Int) (k : Nat) (hk : 1 ≤ k) : rgOff i o r f 1 ≤ rgOff i o r f k := by
  induction k with
  | zero => omega
  | succ k ih =>
    rcases Nat.eq_zero_or_pos k with h | h
    · subst h; exact Nat.le_refl _
    · have h2 := rgOff_step i o r f k
      have := ih h
      omega
/-- A store that there is begins behind the flash, and ends within all bytes. -/
theorem store_pos (i o r f a n : Int) (h : storeErr i o r f a n = 0) : rgLen i o r f 0 ≤ accPos i o r f a n true ∧ accPos i o r f a n true + n.toNat ≤ rgAll i o r f ∧ (n = 1 ∨ n = 4) := by
  obtain ⟨k, p, hacc⟩ := find_access i o r f a n true h
  have hp := access_pos hacc
  obtain ⟨h1, hk, h2, h3, hn⟩ := hacc
  have hle := rgOff_le i o r f k hk
  have hlen : rgLen i o r f k = (rgNth i o r f k).len.toNat := rfl
  have hs : mmSeek a n true (mmRegions i o r f) 0 = ((k : Int), 0) := by
    rw [← h1]
    unfold mmFind
    rw [if_neg (by omega)]
    split
    · rename_i h4
      unfold mmFind at h1
      rw [if_neg (by omega), if_pos h4] at h1
      simp at h1
    · rfl
  obtain ⟨k2, e1, _, e3⟩ := mmSeek_write a n _ 0 _ hs rfl
  have hk0 : 1 ≤ k := by
    rcases Nat.eq_zero_or_pos k with h0 | h0
    · subst h0
      have : k2 = 0 := by simp at e1; omega
      subst this
      exact absurd e3 (by simp [mmRegions])
    · exact h0
  have hmo := rgOff_mono i o r f k hk0
  have h01 : rgOff i o r f 1 = rgLen i o r f 0 := by rw [rgOff_step i o r f 0]; simp [rgOff]
  rw [hp]
  omega
theorem storeBs_len (i o r f : Int) (bs : List UInt8) (a n v : Int) (hl : bs.length = rgAll i o r f) : (storeBs i o r f bs a n v).length = rgAll i o r f ∧ (storeBs i o r f bs a n v).take (rgLen i o r f 0) = bs.take (rgLen i o r f 0) := by
  unfold storeBs
  by_cases h : storeErr i o r f a n = 0
  · rw [if_neg (by simpa using h)]
    obtain ⟨h1, h2, h3⟩ := store_pos i o r f a n h
    refine ⟨(putBytes_len bs _ _ v (by omega) (by omega)).trans hl, ?_⟩
    unfold putBytes
    rw [List.take_append_of_le_length (by rw [List.length_take]; omega), List.take_take, Nat.min_eq_left h1]
  · rw [if_pos h]; exact ⟨hl, rfl⟩
theorem playBs_keep (i o r f : Int) : ∀ (l : List St) (bs : List UInt8), bs.length = rgAll i o r f → (playBs i o r f bs l).length = rgAll i o r f ∧ (playBs i o r f bs l).take (rgLen i o r f 0) = bs.take (rgLen i o r f 0)
  | [], bs, h => ⟨h, rfl⟩
  | x :: l, bs, h => by
    have hs : (stepBs i o r f bs x).length = rgAll i o r f ∧ (stepBs i o r f bs x).take (rgLen i o r f 0) = bs.take (rgLen i o r f 0) := by
      unfold stepBs
      split
      · exact ⟨h, rfl⟩
      · exact storeBs_len i o r f bs x.a x.n x.v h
    obtain ⟨h1, h2⟩ := playBs_keep i o r f l (stepBs i o r f bs x) hs.1
    exact ⟨h1, h2.trans hs.2⟩
theorem init_len (i o r : Int) (flash input : ByteArray) (hck : mmCheck i o r flash.size = 0) (hin : (input.size : Int) = i) : (memInit flash input (rgAll i o r flash.size)).length = rgAll i o r flash.size ∧ rgLen i o r flash.size 0 = flash.size ∧ rgLen i o r flash.size 1 = input.size := by
  have hl0 : rgLen i o r flash.size 0 = flash.size := by show ((flash.size : Int)).toNat = _; omega
  have hl1 : rgLen i o r flash.size 1 = input.size := by show i.toNat = _; omega
  have h := rgOff_le i o r flash.size 1 (by decide)
  rw [rgOff_step i o r flash.size 0, hl0, hl1] at h
  have h0 : rgOff i o r flash.size 0 = 0 := rfl
  have hfl : flash.data.toList.length = flash.size := by rw [Array.length_toList, ByteArray.size_data]
  have hil : input.data.toList.length = input.size := by rw [Array.length_toList, ByteArray.size_data]
  refine ⟨?_, hl0, hl1⟩
  unfold memInit
  simp only [List.length_append, List.length_replicate, hfl, hil]; omega
/-- Behind any steps the flash is as it was, and the input's region as long. -/
theorem flash_kept (i o r : Int) (flash input : ByteArray) (l : List St) (hck : mmCheck i o r flash.size = 0) (hin : (input.size : Int) = i) :
    rgBytes i o r flash.size (playBs i o r flash.size (memInit flash input (rgAll i o r flash.size)) l) 0 = flash ∧ (rgBytes i o r flash.size (playBs i o r flash.size (memInit flash input (rgAll i o r flash.size)) l) 1).size = input.size := by
  obtain ⟨h1, h2, h3⟩ := init_len i o r flash input hck hin
  obtain ⟨h4, h5⟩ := playBs_keep i o r flash.size l _ h1
  have hfl : flash.data.toList.length = flash.size := by rw [Array.length_toList, ByteArray.size_data]
  have hle := rgOff_le i o r flash.size 1 (by decide)
  constructor
  · unfold rgBytes
    have h0 : rgOff i o r flash.size 0 = 0 := rfl
    rw [h0, List.drop_zero, h5, h2]
    unfold memInit
    rw [List.take_append_of_le_length (by omega), List.take_of_length_le (by omega)]
  · unfold rgBytes
    show (_ : Array UInt8).size = _
    simp only [List.size_toArray, List.length_take, List.length_drop, h4, h3]
    rw [h3] at hle
    omega
/-- No byte of the flash may be stored to. -/
theorem flash_shut (i o r f a : Int) (h0 : 0 ≤ a) (h1 : a < 262144) : storeErr i o r f a 1 = 8 := by
  unfold storeErr mmFind
  rw [if_neg (by omega), if_neg (by rw [Int.tmod_one]; simp)]
  unfold mmRegions
  have e1 : hasB ⟨536936448, i, true⟩ a 1 = false := by unfold hasB; simp; omega
  have e2 : hasB ⟨537001984, o, true⟩ a 1 = false := by unfold hasB; simp; omega
  have e3 : hasB ⟨537133056, r, true⟩ a 1 = false := by unfold hasB; simp; omega
  have e4 : hasB ⟨537395200, r, true⟩ a 1 = false := by unfold hasB; simp; omega
  have e5 : hasB ⟨537919488, 4, true⟩ a 1 = false := by unfold hasB; simp; omega
  have e6 : hasB ⟨538968064, 4, true⟩ a 1 = false := by unfold hasB; simp; omega
  simp only [mmSeek, e1, e2, e3, e4, e5, e6]
  split <;> simp
theorem str_cells : Try.prog.cellsOf 9 = 1 := by kernel_rfl
theorem start_cells : Try.prog.cellsOf 63 = 5 := by kernel_rfl
def stStr (cs : List Value) : Prop := ∃ s : ByteArray, cs = [.string s] ∧ s.size ≤ reachBytes
def startRs (i : Nat) : List Value → Prop := if i = 0 then hdSz else stStr
set_option maxRecDepth 100000 in
theorem opens_start {W : World} {B : Nat} : Opens Try.prog W B 63 (fun cs => ∃ (a b c : Int) (s t : ByteArray), cs = [.int .i64 a, .int .i64 b, .int .i64 c, .string s, .string t] ∧ I64 a ∧ I64 b ∧ I64 c ∧ s.size ≤ reachBytes ∧ t.size ≤ reachBytes) := by
  refine (opens_struct Try.underlying63 startRs ?_).mono ?_
  · intro i f hf
    match i, hf with
    | 0, hf => simp at hf; subst hf; rw [show startRs 0 = hdSz from rfl]; exact opens_sizes
    | 1, hf => simp at hf; subst hf; rw [show startRs 1 = stStr from rfl]; exact (opens_string Try.underlying9)
    | 2, hf => simp at hf; subst hf; rw [show startRs 2 = stStr from rfl]; exact (opens_string Try.underlying9)
    | i + 3, hf => simp at hf
  · intro cs ⟨hl, hf⟩
    rw [start_cells] at hl
    match cs, hl with
    | [x0, x1, x2, x3, x4], _ =>
      have h0 : hdSz (([x0, x1, x2, x3, x4].drop 0).take (Try.prog.cellsOf 23)) := hf 0 _ rfl
      have h1 : stStr (([x0, x1, x2, x3, x4].drop 3).take (Try.prog.cellsOf 9)) := hf 1 _ rfl
      have h2 : stStr (([x0, x1, x2, x3, x4].drop 4).take (Try.prog.cellsOf 9)) := hf 2 _ rfl
      rw [str_cells] at h1 h2
      rw [sz_cells] at h0
      obtain ⟨a, b, c, e0, w0, w1, w2⟩ : ∃ a b c : Int, [x0, x1, x2] = [Value.int .i64 a, .int .i64 b, .int .i64 c] ∧ I64 a ∧ I64 b ∧ I64 c := h0
      obtain ⟨s, e1, w3⟩ : ∃ s : ByteArray, [x3] = [Value.string s] ∧ s.size ≤ reachBytes := h1
      obtain ⟨t, e2, w4⟩ : ∃ s : ByteArray, [x4] = [Value.string s] ∧ s.size ≤ reachBytes := h2
      simp only [List.cons.injEq, and_true] at e0 e1 e2
      obtain ⟨e0, e3, e4⟩ := e0
      subst e0 e1 e2 e3 e4
      exact ⟨a, b, c, s, t, rfl, w0, w1, w2, w3, w4⟩
def startVal (i o r : Int) (flash input : ByteArray) : Value := .agg #[.int .i64 i, .int .i64 o, .int .i64 r, .string flash, .string input]
set_option maxRecDepth 100000 in
theorem open_start {W : World} {H : Type} {enc : TypeId × Value → H} {v : Value} {d : DataW H} {ps : List MemPlace} {base : Nat} (hval : Value.okWide Try.prog W .any base 63 v)
    (hd : DataW.Trod enc Try.prog W 0 (fun _ => true) true 63 v d ps) (hlt : ∀ p ∈ ps, p.block < W.heap.size) (hw : ∀ n ∈ d.weights Try.prog 63, n ≤ reachBytes) :
    ∃ (i o r : Int) (flash input : ByteArray), v = startVal i o r flash input ∧ I64 i ∧ I64 o ∧ I64 r ∧ flash.size ≤ reachBytes ∧ input.size ≤ reachBytes := by
  have hval2 := hval
  simp only [Value.okWide, Try.underlying63] at hval2
  obtain ⟨cs, rfl, hsz, _⟩ := hval2
  obtain ⟨a, b, c, s, t, he, h0, h1, h2, h3, h4⟩ := (opens_start (W := W) (B := W.heap.size)).arg hd hlt hw
  refine ⟨a, b, c, s, t, ?_, h0, h1, h2, h3, h4⟩
  obtain ⟨l⟩ := cs
  simp only [Value.cells] at he
  rw [he]
  rfl
end Go.Proofs.Ytgipelnjbpkfjaa
