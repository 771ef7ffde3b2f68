/- Load and Store of a memory, each in one contract; hauberklaw07.lives. No condition but those that each theorem names. -/
import Derived.Test.YtgipelnjbpkfjaaMemNew
namespace Go.Proofs.Ytgipelnjbpkfjaa
open Go.RowKit

/-- Where the bytes of an access that there is begin, among all bytes. -/
def accPos (i o r f a n : Int) (write : Bool) : Nat := rgOff i o r f (mmFind (mmRegions i o r f) a n write).1.toNat + (a - (rgNth i o r f (mmFind (mmRegions i o r f) a n write).1.toNat).base).toNat
theorem access_pos {i o r f a n : Int} {write : Bool} {k p : Nat} (h : Access i o r f a n write k p) : accPos i o r f a n write = rgOff i o r f k + p := by
  obtain ⟨h1, h2, h3, _⟩ := h
  unfold accPos
  rw [h1]
  simp only [Int.toNat_natCast]
  rw [h3]
  simp only [Int.toNat_natCast]
/-- What a load answers. -/
def loadRes (i o r f : Int) (bs : List UInt8) (a n : Int) : Int × Int :=
  if (mmFind (mmRegions i o r f) a n false).2 ≠ 0 then (0, (mmFind (mmRegions i o r f) a n false).2)
  else if n = 1 then (((bs.getD (accPos i o r f a n false) 0).toNat : Int), 0)
  else (((le4 (bs.getD (accPos i o r f a n false) 0) (bs.getD (accPos i o r f a n false + 1) 0) (bs.getD (accPos i o r f a n false + 2) 0) (bs.getD (accPos i o r f a n false + 3) 0) : Nat) : Int), 0)
def storeErr (i o r f a n : Int) : Int := (mmFind (mmRegions i o r f) a n true).2
/-- The bytes behind a store. -/
def storeBs (i o r f : Int) (bs : List UInt8) (a n v : Int) : List UInt8 := if storeErr i o r f a n ≠ 0 then bs else putBytes bs (accPos i o r f a n true) n.toNat v
theorem mem_Load (M gb : Nat) (i o r f a n : Int) (bs : List UInt8) (hck : mmCheck i o r f = 0) (ha : a ≤ 9223372036854775807) (w : World) (h : MemAt w M gb i o r f bs) :
    Calls Try.prog 33 #[.pointer (some ⟨M, 0, none⟩), .int .i64 a, .int .i64 n] w fun e w' => e = .returned (pairVal (loadRes i o r f bs a n)) ∧ Below w.heap.size w w' := by
  by_cases he : (mmFind (mmRegions i o r f) a n false).2 = 0
  · obtain ⟨k, p, hacc⟩ := find_access i o r f a n false he
    have hp := access_pos hacc
    rcases hacc.2.2.2.2 with rfl | rfl
    · rw [show loadRes i o r f bs a 1 = (((bs.getD (rgOff i o r f k + p) 0).toNat : Int), 0) by unfold loadRes; rw [if_neg (by simpa using he), if_pos rfl, hp]]
      exact mem_Load1 M gb i o r f a bs hck ha k p hacc w h
    · rw [show loadRes i o r f bs a 4 = (((le4 (bs.getD (rgOff i o r f k + p) 0) (bs.getD (rgOff i o r f k + p + 1) 0) (bs.getD (rgOff i o r f k + p + 2) 0) (bs.getD (rgOff i o r f k + p + 3) 0) : Nat) : Int), 0) by
        unfold loadRes; rw [if_neg (by simpa using he), if_neg (by decide), hp]]
      exact mem_Load4 M gb i o r f a bs hck ha k p hacc w h
  · rw [show loadRes i o r f bs a n = (0, (mmFind (mmRegions i o r f) a n false).2) by unfold loadRes; rw [if_pos he]]
    exact mem_Load_no M gb i o r f a n bs hck ha he w h
theorem mem_Store (M gb : Nat) (i o r f a n v : Int) (bs : List UInt8) (hck : mmCheck i o r f = 0) (ha : a ≤ 9223372036854775807) (w : World) (h : MemAt w M gb i o r f bs) :
    Calls Try.prog 34 #[.pointer (some ⟨M, 0, none⟩), .int .i64 a, .int .i64 n, .int .i64 v] w fun e w' =>
    e = .returned (.int .i64 (storeErr i o r f a n)) ∧ MemAt w' M gb i o r f (storeBs i o r f bs a n v) ∧ w.grownBy w' (some gb) := by
  by_cases he : (mmFind (mmRegions i o r f) a n true).2 = 0
  · obtain ⟨k, p, hacc⟩ := find_access i o r f a n true he
    have hp := access_pos hacc
    have hn : n = ((n.toNat : Nat) : Int) := by have := hacc.2.2.2.2; omega
    unfold storeBs storeErr
    rw [if_neg (by simpa using he), hp, he]
    generalize n.toNat = m at *
    subst hn
    exact mem_Store_yes M gb i o r f a v m bs hck ha k p hacc w h
  · unfold storeBs storeErr
    rw [if_pos he]
    refine (mem_Store_no M gb i o r f a n v bs hck ha he w h).mono ?_
    rintro e w' ⟨rfl, hb⟩
    exact ⟨rfl, h.below hb, ⟨hb.os, hb.tape, hb.output, hb.size, fun k hk _ => hb.block k hk⟩⟩
theorem lives_ck : mmCheck 4 0 4 (((⟨#[]⟩ : ByteArray).size : Nat) : Int) = 0 := by decide
def livesBs : List UInt8 := memInit ⟨#[]⟩ ⟨#[97, 98, 99, 100]⟩ (rgAll 4 0 4 0)
theorem lives_1 : pairVal (loadRes 4 0 4 0 livesBs 536936448 4) = .tuple #[.int .i64 1684234849, .int .i64 0] := by kernel_rfl
theorem lives_2 : pairVal (loadRes 4 0 4 0 livesBs 536936451 1) = .tuple #[.int .i64 100, .int .i64 0] := by kernel_rfl
theorem lives_3 : pairVal (loadRes 4 0 4 0 livesBs 536936449 4) = .tuple #[.int .i64 0, .int .i64 8] := by kernel_rfl
theorem law07_lives (w : World) : Calls Try.prog 28 #[] w fun e w' => e = .returned (.bool true) ∧ Below w.heap.size w w' := by
  have HL := Lib.hid (fun a n (ha : a ≤ 9223372036854775807) (M gb : Nat) (W : World) (h : MemAt W M gb 4 0 4 0 livesBs) => mem_Load M gb 4 0 4 0 a n livesBs (by decide) ha W h)
  have L1 := Lib.hid lives_1
  have L2 := Lib.hid lives_2
  have L3 := Lib.hid lives_3
  go_enter Try.func28, Try.ntmps28
  go_wp2_with fail
  refine (mem_New_yes 4 0 4 ⟨#[]⟩ ⟨#[97, 98, 99, 100]⟩ lives_ck (by decide) _).mono ?_
  rintro e w1 ⟨M, gb, rfl, hm, hge, hb1⟩
  have HM : Hid (MemAt w1 M gb 4 0 4 0 livesBs) := Lib.hid hm
  have HB1 := Lib.hid hb1
  clear hm hb1 hge
  go_wp2_with fail
  refine (HL.out _ _ (by decide) M gb _ HM.out).mono ?_
  rintro e w2 ⟨rfl, hb2⟩
  rw [L1.out]
  have HM2 := Lib.hid (HM.out.below hb2)
  have HB2 := Lib.hid (bch HB1.out hb2)
  clear hb2
  go_wp2_with fail
  refine (HL.out _ _ (by decide) M gb _ HM2.out).mono ?_
  rintro e w3 ⟨rfl, hb3⟩
  rw [L2.out]
  have HM3 := Lib.hid (HM2.out.below hb3)
  have HB3 := Lib.hid (bch HB2.out hb3)
  clear hb3
  go_wp2_with fail
  refine (HL.out _ _ (by decide) M gb _ HM3.out).mono ?_
  rintro e w4 ⟨rfl, hb4⟩
  rw [L3.out]
  have HB4 := Lib.hid (bch HB3.out hb4)
  clear hb4
  go_wp2_with fail
  go_ret
  exact ⟨rfl, HB4.out⟩
end Go.Proofs.Ytgipelnjbpkfjaa
