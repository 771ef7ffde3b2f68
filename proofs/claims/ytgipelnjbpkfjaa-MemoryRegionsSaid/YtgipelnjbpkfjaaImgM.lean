/- Plain facts on images: a word's four bytes, the words ahead of the code by both texts, and when bytes are an image. No program. -/
import Derived.Test.YtgipelnjbpkfjaaWMath
namespace Go.Proofs.Ytgipelnjbpkfjaa
open Go.RowKit

/-- A text of four bytes. -/
def str4 (a b c d : Int) : ByteArray := ⟨#[UInt8.ofNat a.toNat, UInt8.ofNat b.toNat, UInt8.ofNat c.toNat, UInt8.ofNat d.toNat]⟩
/-- A word's bytes. -/
def wBytes (a : Int) : ByteArray := str4 ((wd a : Nat) % 256) ((wd a : Nat) / 256 % 256) ((wd a : Nat) / 65536 % 256) ((wd a : Nat) / 16777216 % 256)
/-- The number of four bytes, lowest first. -/
def le4 (a b c d : UInt8) : Nat := a.toNat + 256 * b.toNat + 65536 * c.toNat + 16777216 * d.toNat
theorem le4_lt (a b c d : UInt8) : le4 a b c d < 4294967296 := by
  have h1 := a.toNat_lt; have h2 := b.toNat_lt; have h3 := c.toNat_lt; have h4 := d.toNat_lt
  unfold le4; omega
def wList (a : Int) : List UInt8 := [UInt8.ofNat (wd a % 256), UInt8.ofNat (wd a / 256 % 256), UInt8.ofNat (wd a / 65536 % 256), UInt8.ofNat (wd a / 16777216 % 256)]
theorem wBytes_list (a : Int) : (wBytes a).data.toList = wList a := by
  unfold wBytes str4 wList
  have e1 : (((wd a : Nat) : Int) % 256).toNat = wd a % 256 := by omega
  have e2 : (((wd a : Nat) : Int) / 256 % 256).toNat = wd a / 256 % 256 := by omega
  have e3 : (((wd a : Nat) : Int) / 65536 % 256).toNat = wd a / 65536 % 256 := by omega
  have e4 : (((wd a : Nat) : Int) / 16777216 % 256).toNat = wd a / 16777216 % 256 := by omega
  rw [e1, e2, e3, e4]
theorem ofNat_toNat (n : Nat) (h : n < 256) : (UInt8.ofNat n).toNat = n := by
  simp; omega
theorem wList_le4 (a b c d : UInt8) : wList ((le4 a b c d : Nat) : Int) = [a, b, c, d] := by
  have h1 := a.toNat_lt; have h2 := b.toNat_lt; have h3 := c.toNat_lt; have h4 := d.toNat_lt
  unfold wList
  rw [wd_nat _ (le4_lt a b c d)]
  have e1 : le4 a b c d % 256 = a.toNat := by unfold le4; omega
  have e2 : le4 a b c d / 256 % 256 = b.toNat := by unfold le4; omega
  have e3 : le4 a b c d / 65536 % 256 = c.toNat := by unfold le4; omega
  have e4 : le4 a b c d / 16777216 % 256 = d.toNat := by unfold le4; omega
  rw [e1, e2, e3, e4]
  simp [UInt8.ofNat_toNat]
theorem wList_eq (x : Int) (h0 : 0 ≤ x) (h1 : x < 4294967296) (a b c d : UInt8) : wList x = [a, b, c, d] ↔ ((le4 a b c d : Nat) : Int) = x := by
  constructor
  · intro h
    unfold wList at h
    simp only [List.cons.injEq, and_true] at h
    obtain ⟨ha, hb, hc, hd⟩ := h
    have ha' := congrArg UInt8.toNat ha
    have hb' := congrArg UInt8.toNat hb
    have hc' := congrArg UInt8.toNat hc
    have hd' := congrArg UInt8.toNat hd
    rw [ofNat_toNat _ (by omega)] at ha' hb' hc' hd'
    unfold le4
    rw [← ha', ← hb', ← hc', ← hd']
    unfold wd
    omega
  · rintro rfl
    exact wList_le4 a b c d
/-- An image's head. -/
structure Hd where
  reset : Int
  handler : Int
  i : Int
  o : Int
  r : Int
  mode : Int
def hd0 : Hd := ⟨0, 0, 0, 0, 0, 0⟩
/-- May code begin there? -/
def imgPlace (a n : Int) : Bool := decide (64 ≤ a) && (decide (a < n) && (a % 2 == 0))
theorem imgPlace_iff (a n : Int) : imgPlace a n = true ↔ 64 ≤ a ∧ a < n ∧ a % 2 = 0 := by unfold imgPlace; simp
/-- The k-th word ahead of the code, by the document's answer. -/
def refWord (h : Hd) (k : Nat) : Int := if k = 0 then 537133056 else if k = 1 then wrap64 (h.reset + 1) else if k = 7 then h.i else if k = 8 then h.o else if k = 9 then h.r else if k = 10 then h.mode else wrap64 (h.handler + 1)
/-- The texts of words, one behind the other. -/
def catWords : List Int → ByteArray
  | [] => ByteArray.empty
  | x :: l => wBytes x ++ catWords l
theorem wBytes_size (x : Int) : (wBytes x).size = 4 := rfl
theorem catWords_size (l : List Int) : (catWords l).size = 4 * l.length := by
  induction l with
  | nil => rfl
  | cons x l ih => rw [catWords, ByteArray.size_append, ih, wBytes_size, List.length_cons]; omega
theorem catWords_snoc (l : List Int) (x : Int) : catWords (l ++ [x]) = catWords l ++ wBytes x := by
  induction l with
  | nil => simp [catWords]
  | cons y l ih => rw [List.cons_append, catWords, ih, catWords, ByteArray.append_assoc]
theorem catWords_list (l : List Int) : (catWords l).data.toList = l.flatMap wList := by
  induction l with
  | nil => rfl
  | cons x l ih => rw [catWords, ByteArray.toList_data_append, ih, wBytes_list, List.flatMap_cons]
def refFront (h : Hd) (k : Nat) : ByteArray := catWords ((List.range k).map (refWord h))
theorem refFront_size (h : Hd) (k : Nat) : (refFront h k).size = 4 * k := by
  rw [refFront, catWords_size, List.length_map, List.length_range]
theorem refFront_succ (h : Hd) (k : Nat) : refFront h (k + 1) = refFront h k ++ wBytes (refWord h k) := by
  rw [refFront, List.range_succ, List.map_append, List.map_cons, List.map_nil, catWords_snoc]; rfl
/-- The words ahead of an image's code, by the program. -/
def frontWords (h : Hd) : List Int := [537133056, bits .or .i64 h.reset 1, bits .or .i64 h.handler 1, bits .or .i64 h.handler 1, bits .or .i64 h.handler 1, bits .or .i64 h.handler 1, bits .or .i64 h.handler 1, h.i, h.o, h.r, h.mode, bits .or .i64 h.handler 1, bits .or .i64 h.handler 1, bits .or .i64 h.handler 1, bits .or .i64 h.handler 1, bits .or .i64 h.handler 1]
theorem or_one (a : Int) (h0 : 0 ≤ a) (h1 : a < 4294967296) (h2 : a % 2 = 0) : bits .or .i64 a 1 = a + 1 := by
  obtain ⟨n, rfl⟩ := Int.eq_ofNat_of_zero_le h0
  show IntKind.i64.wrap ((BitVec.ofInt 64 ((n : Nat) : Int) ||| BitVec.ofInt 64 (1 : Int)).toNat : Int) = _
  rw [BitVec.toNat_or, BitVec.toNat_ofInt, BitVec.toNat_ofInt]
  have e1 : (((n : Nat) : Int) % (2 ^ 64 : Nat)).toNat = n := by omega
  have e2 : ((1 : Int) % (2 ^ 64 : Nat)).toNat = 1 := by decide
  rw [e1, e2]
  have e3 : n ||| 1 = n + 1 := by
    have h := Nat.two_pow_add_eq_or_of_lt (i := 1) (b := 1) (by decide) (n / 2)
    rw [show 2 ^ 1 * (n / 2) = n by omega] at h
    exact h.symm
  rw [e3, wrapi64, wrap64_small _ (by omega) (by omega)]
  omega
/-- A head of which an image may be. -/
def Hd.fit (h : Hd) : Prop := 0 ≤ h.reset ∧ h.reset < 4294967295 ∧ h.reset % 2 = 0 ∧ 0 ≤ h.handler ∧ h.handler < 4294967295 ∧ h.handler % 2 = 0 ∧
  0 ≤ h.i ∧ h.i < 4294967296 ∧ 0 ≤ h.o ∧ h.o < 4294967296 ∧ 0 ≤ h.r ∧ h.r < 4294967296 ∧ 0 ≤ h.mode ∧ h.mode < 4294967296
theorem front_ref (h : Hd) (hf : h.fit) : frontWords h = (List.range 16).map (refWord h) := by
  obtain ⟨a1, a2, a3, b1, b2, b3, _⟩ := hf
  have e1 : refWord h 1 = h.reset + 1 := by simp [refWord]; exact wrap64_small _ (by omega) (by omega)
  have e2 : wrap64 (h.handler + 1) = h.handler + 1 := wrap64_small _ (by omega) (by omega)
  unfold frontWords
  rw [or_one _ a1 (by omega) a3, or_one _ b1 (by omega) b3]
  have hr : List.range 16 = [0, 1, 2, 3, 4, 5, 6, 7, 8, 9, 10, 11, 12, 13, 14, 15] := by decide
  rw [hr]
  simp [refWord, e2, wrap64_small (h.reset + 1) (by omega) (by omega)]
theorem refWord_lt (h : Hd) (hf : h.fit) (k : Nat) : 0 ≤ refWord h k ∧ refWord h k < 4294967296 := by
  obtain ⟨a1, a2, a3, b1, b2, b3, c1, c2, c3, c4, c5, c6, c7, c8⟩ := hf
  have e1 : wrap64 (h.reset + 1) = h.reset + 1 := wrap64_small _ (by omega) (by omega)
  have e2 : wrap64 (h.handler + 1) = h.handler + 1 := wrap64_small _ (by omega) (by omega)
  unfold refWord
  rw [e1, e2]
  repeat' split
  all_goals omega
/-- The number of the k-th word of bytes. -/
def lWord (l : List UInt8) (k : Nat) : Int := ((le4 (l.getD (4 * k) 0) (l.getD (4 * k + 1) 0) (l.getD (4 * k + 2) 0) (l.getD (4 * k + 3) 0) : Nat) : Int)
theorem lWord_lt (l : List UInt8) (k : Nat) : 0 ≤ lWord l k ∧ lWord l k < 4294967296 := by
  unfold lWord; have := le4_lt (l.getD (4 * k) 0) (l.getD (4 * k + 1) 0) (l.getD (4 * k + 2) 0) (l.getD (4 * k + 3) 0); omega
theorem cat_iff : ∀ (ws : List Int) (l : List UInt8), (∀ x ∈ ws, 0 ≤ x ∧ x < 4294967296) → 4 * ws.length ≤ l.length →
    (ws.flatMap wList ++ l.drop (4 * ws.length) = l ↔ ∀ k, k < ws.length → lWord l k = ws.getD k 0)
  | [], l, _, _ => by simp
  | x :: ws, [], _, h => by simp at h
  | x :: ws, [_], _, h => by simp at h; omega
  | x :: ws, [_, _], _, h => by simp at h; omega
  | x :: ws, [_, _, _], _, h => by simp at h; omega
  | x :: ws, a :: b :: c :: d :: l, hx, h => by
    have ih := cat_iff ws l (fun y hy => hx y (by simp [hy])) (by simp at h; omega)
    have hd : (a :: b :: c :: d :: l).drop (4 * (x :: ws).length) = l.drop (4 * ws.length) := by
      rw [List.length_cons, show 4 * (ws.length + 1) = 4 * ws.length + 1 + 1 + 1 + 1 by omega]; rfl
    have hsp : wList x ++ (ws.flatMap wList ++ l.drop (4 * ws.length)) = a :: b :: c :: d :: l ↔ wList x = [a, b, c, d] ∧ ws.flatMap wList ++ l.drop (4 * ws.length) = l := by
      constructor
      · intro e
        have : a :: b :: c :: d :: l = [a, b, c, d] ++ l := rfl
        rw [this] at e
        exact List.append_inj e rfl
      · rintro ⟨e1, e2⟩; rw [e1, e2]; rfl
    obtain ⟨h0, h1⟩ := hx x (by simp)
    rw [List.flatMap_cons, hd, List.append_assoc, hsp, ih, wList_eq x h0 h1]
    constructor
    · rintro ⟨e1, e2⟩ k hk
      cases k with
      | zero => exact e1
      | succ k => exact e2 k (by simp at hk; omega)
    · intro e
      exact ⟨e 0 (by simp), fun k hk => e (k + 1) (by simp; omega)⟩
/-- A text of bytes is an image of words where each word is just that. -/
theorem image_iff (h : Hd) (hf : h.fit) (s : ByteArray) (hs : 64 ≤ s.size) :
    refFront h 16 ++ s.extract 64 s.size = s ↔ ∀ k, k < 16 → lWord s.data.toList k = (frontWords h).getD k 0 := by
  have hl : ((List.range 16).map (refWord h)).length = 16 := by simp
  have := cat_iff ((List.range 16).map (refWord h)) s.data.toList (by
    intro x hx; obtain ⟨k, _, rfl⟩ := List.mem_map.1 hx; exact refWord_lt h hf k) (by rw [hl, Array.length_toList, ByteArray.size_data]; omega)
  rw [hl] at this
  rw [front_ref h hf, ← this]
  constructor
  · intro e
    have e2 := congrArg (fun b : ByteArray => b.data.toList) e
    simp only [ByteArray.toList_data_append, ByteArray.data_extract, Array.toList_extract, List.extract_eq_take_drop] at e2
    rw [refFront, catWords_list] at e2
    rw [show 4 * 16 = 64 from rfl]
    rw [List.take_of_length_le (by simp)] at e2
    exact e2
  · intro e
    apply ByteArray.ext
    apply Array.toList_inj.1
    simp only [ByteArray.toList_data_append, ByteArray.data_extract, Array.toList_extract, List.extract_eq_take_drop]
    rw [refFront, catWords_list, List.take_of_length_le (by simp)]
    exact e
/-- The head that bytes tell. -/
def headOf (s : ByteArray) : Hd := ⟨lWord s.data.toList 1 - 1, lWord s.data.toList 3 - 1, lWord s.data.toList 7, lWord s.data.toList 8, lWord s.data.toList 9, lWord s.data.toList 10⟩
end Go.Proofs.Ytgipelnjbpkfjaa
