/- Where the bytes of a store lie among those of a load; what a byte of the stored value is. -/
import Derived.Test.YtgipelnjbpkfjaaKeeps
import Derived.Test.YtgipelnjbpkfjaaWordRM
namespace Go.Proofs.Ytgipelnjbpkfjaa
open Go.ChangeShapes Go.WideShapes Go.ChangeAt Go.RowKit
/-- A byte of a store is loaded at its place. -/
theorem acc_in {i o r f : Int} (a n b : Int) (hck : mmCheck i o r f = 0) (hs : storeErr i o r f a n = 0) (h0 : a ≤ b) (h1 : b < a + n) :
    (mmFind (mmRegions i o r f) b 1 false).2 = 0 ∧ accPos i o r f b 1 false = accPos i o r f a n true + (b - a).toNat := by
  obtain ⟨k, p, hacc⟩ := find_access i o r f a n true hs
  have hp := access_pos hacc
  obtain ⟨_, hk, h2, h3, hn⟩ := hacc
  have hh : hasB ((mmRegions i o r f).getD k rgNone) b 1 = true := by
    change a - ((mmRegions i o r f).getD k rgNone).base = (p : Int) at h2
    change (p : Int) + n ≤ ((mmRegions i o r f).getD k rgNone).len at h3
    unfold hasB
    simp only [Bool.and_eq_true, decide_eq_true_eq]
    omega
  have hsk := seek_hits hck (by decide) k hk hh (Or.inl (rfl : false = false))
  have hf : mmFind (mmRegions i o r f) b 1 false = ((k : Int), 0) := by rw [find_one]; exact hsk
  have hacc2 : Access i o r f b 1 false k (p + (b - a).toNat) := ⟨hf, hk, by omega, by omega, Or.inl rfl⟩
  have hp2 := access_pos hacc2
  exact ⟨by rw [hf], by rw [hp2, hp]; omega⟩
theorem rgOff_lt (i o r f : Int) (j : Nat) : ∀ k, j < k → rgOff i o r f j + rgLen i o r f j ≤ rgOff i o r f k
  | 0, h => by omega
  | k + 1, h => by
    have h2 := rgOff_step i o r f k
    rcases Nat.lt_or_ge j k with h3 | h3
    · have := rgOff_lt i o r f j k h3; omega
    · obtain rfl : j = k := by omega
      omega
/-- Another byte lies elsewhere. -/
theorem acc_out {i o r f : Int} (a n b : Int) (hs : storeErr i o r f a n = 0) (hb : (mmFind (mmRegions i o r f) b 1 false).2 = 0) (h : b < a ∨ a + n ≤ b) :
    accPos i o r f b 1 false < accPos i o r f a n true ∨ accPos i o r f a n true + n.toNat ≤ accPos i o r f b 1 false := by
  obtain ⟨k, p, hacc⟩ := find_access i o r f a n true hs
  have hp := access_pos hacc
  obtain ⟨_, hk, h2, h3, hn⟩ := hacc
  obtain ⟨k', p', hacc'⟩ := find_access i o r f b 1 false hb
  have hp' := access_pos hacc'
  obtain ⟨_, hk', h2', h3', _⟩ := hacc'
  have l1 : rgLen i o r f k = (rgNth i o r f k).len.toNat := rfl
  have l2 : rgLen i o r f k' = (rgNth i o r f k').len.toNat := rfl
  rw [hp, hp']
  rcases Nat.lt_trichotomy k k' with q | q | q
  · have := rgOff_lt i o r f k k' q; omega
  · subst q; omega
  · have := rgOff_lt i o r f k' k q; omega
theorem and_255 (n : Int) : bits .and .i64 n 255 = n % 256 := by
  show IntKind.i64.wrap ((BitVec.ofInt 64 n &&& BitVec.ofInt 64 255).toNat : Int) = _
  rw [BitVec.toNat_and, show (BitVec.ofInt 64 255).toNat = 2 ^ 8 - 1 from rfl, Nat.and_two_pow_sub_one_eq_mod, BitVec.toNat_ofInt, wrapi64]
  unfold wrap64; omega
theorem w_byte (v : Int) (t : Nat) (ht : t < 4) : (((wList v).getD t 0).toNat : Int) = ((wd v / 2 ^ (8 * t) % 256 : Nat) : Int) := by
  have e : t = 0 ∨ t = 1 ∨ t = 2 ∨ t = 3 := by omega
  have h := wd_lt v
  rcases e with rfl | rfl | rfl | rfl
  all_goals
    simp only [wList, List.getD_cons_zero, List.getD_cons_succ]
    rw [UInt8.toNat_ofNat']
    simp only [Nat.reducePow, Nat.reduceMul]
    omega
theorem byte_cast (x k : Nat) : ((x / 2 ^ k % 256 : Nat) : Int) = (x : Int) / 2 ^ k % 256 := by
  generalize h : 2 ^ k = p
  have h2 : (2 : Int) ^ k = (p : Int) := by rw [← h, Int.natCast_pow]; rfl
  rw [h2]
  rfl
theorem w_word (v : Int) : ((le4 ((wList v).getD 0 0) ((wList v).getD 1 0) ((wList v).getD 2 0) ((wList v).getD 3 0) : Nat) : Int) = ((wd v : Nat) : Int) := by
  have h := wd_lt v
  simp only [wList, List.getD_cons_zero, List.getD_cons_succ]
  unfold le4
  simp only [UInt8.toNat_ofNat']
  omega
/-- What a load of what was stored answers. -/
theorem keeps_same {i o r f : Int} (a n v : Int) (bs : List UInt8) (hl : bs.length = rgAll i o r f) (hs : storeErr i o r f a n = 0) :
    loadRes i o r f (storeBs i o r f bs a n v) a n = (if n = 1 then v % 256 else v % 4294967296, 0) := by
  rw [load_same i o r f a n v bs hl hs, w_word, w_byte v 0 (by decide), wd_cast]
  congr 2
  have := wd_cast v
  omega
/-- A byte of what was stored. -/
theorem keeps_byte {i o r f : Int} (a n v b : Int) (bs : List UInt8) (hck : mmCheck i o r f = 0) (hl : bs.length = rgAll i o r f) (hs : storeErr i o r f a n = 0) (h0 : a ≤ b) (h1 : b < a + n) :
    loadRes i o r f (storeBs i o r f bs a n v) b 1 = ((v % 4294967296) / 2 ^ (8 * (b - a).toNat) % 256, 0) := by
  obtain ⟨_, h2, h3⟩ := store_pos i o r f a n hs
  obtain ⟨hf, hp⟩ := acc_in a n b hck hs h0 h1
  rw [load_one _ _ _ _ _ _ hf, store_yes _ _ _ _ _ _ _ _ hs, hp, putBytes_in bs _ n.toNat (b - a).toNat v (by omega) (by omega) (by omega), w_byte v _ (by omega), ← wd_cast, byte_cast]
theorem keeps_far {i o r f : Int} (a n v b : Int) (bs : List UInt8) (hl : bs.length = rgAll i o r f) (h : storeErr i o r f a n ≠ 0 ∨ b < a ∨ a + n ≤ b) :
    loadRes i o r f (storeBs i o r f bs a n v) b 1 = loadRes i o r f bs b 1 := by
  refine load_far i o r f a n v b bs hl fun hs hb => ?_
  rcases h with h | h
  · exact absurd hs h
  · exact acc_out a n b hs hb h
def stVal (x : St) : Value := .agg #[.int .i64 x.kind, .int .i64 x.a, .int .i64 x.n, .int .i64 x.v]
set_option maxRecDepth 100000 in
theorem open_step {W : World} {H : Type} {enc : TypeId × Value → H} {v : Value} {d : DataW H} {ps : List MemPlace} {base : Nat} (hval : Value.okWide Try.prog W .any base 76 v)
    (hd : DataW.Trod enc Try.prog W 0 (fun _ => true) true 76 v d ps) (hlt : ∀ p ∈ ps, p.block < W.heap.size) (hw : ∀ n ∈ d.weights Try.prog 76, n ≤ reachBytes) :
    ∃ x : St, v = stVal x ∧ x.a ≤ 9223372036854775807 := by
  have hval2 := hval
  simp only [Value.okWide, Try.underlying76] at hval2
  obtain ⟨cs, rfl, hsz, _⟩ := hval2
  obtain ⟨x, he, h0⟩ := (opens_st (W := W) (B := W.heap.size)).arg hd hlt hw
  refine ⟨x, ?_, h0⟩
  obtain ⟨l⟩ := cs
  simp only [Value.cells] at he
  rw [he]
  rfl
end Go.Proofs.Ytgipelnjbpkfjaa
