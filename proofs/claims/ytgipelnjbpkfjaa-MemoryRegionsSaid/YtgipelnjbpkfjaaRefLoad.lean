/- Contract of the document's Load. No condition but those that each theorem names. -/
import Derived.Test.YtgipelnjbpkfjaaRefByte
namespace Go.Proofs.Ytgipelnjbpkfjaa
open Go.RowKit
theorem baseByte_range (flash input : ByteArray) (a : Int) : 0 ≤ baseByte flash input a ∧ baseByte flash input a < 256 := by
  unfold baseByte
  have h := fun s q => (strAt s q).toNat_lt
  split
  · have := h flash a.toNat; omega
  · split
    · have := h input (a - 536936448).toNat; omega
    · omega
theorem refByte_range (i o r : Int) (flash input : ByteArray) (a : Int) : ∀ l, 0 ≤ refByte i o r flash input l a ∧ refByte i o r flash input l a < 256
  | [] => baseByte_range flash input a
  | x :: l => by
    unfold refByte
    split
    · exact stByte_cast x a
    · exact refByte_range i o r flash input a l
/-- The bytes at the start, and behind steps. -/
def startBs (i o r : Int) (flash input : ByteArray) : List UInt8 := memInit flash input (rgAll i o r flash.size)
theorem ref_word (i o r a : Int) (flash input : ByteArray) (xs : List St) (hck : mmCheck i o r flash.size = 0) (hin : (input.size : Int) = i) (hf : (mmFind (mmRegions i o r flash.size) a 4 false).2 = 0) :
    loadRes i o r flash.size (playBs i o r flash.size (startBs i o r flash input) xs) a 4 = (refByte i o r flash input xs.reverse a + 256 * refByte i o r flash input xs.reverse (a + 1) + 65536 * refByte i o r flash input xs.reverse (a + 2) + 16777216 * refByte i o r flash input xs.reverse (a + 3), 0) := by
  refine load_word i o r a flash.size _ (fun b => refByte i o r flash input xs.reverse b) hck hf fun b hb => ?_
  have h := play_byte i o r b flash input hck hin hb xs.reverse
  rw [List.reverse_reverse] at h
  exact h
theorem ref_one (i o r a : Int) (flash input : ByteArray) (xs : List St) (hck : mmCheck i o r flash.size = 0) (hin : (input.size : Int) = i) (hf : (mmFind (mmRegions i o r flash.size) a 1 false).2 = 0) :
    loadRes i o r flash.size (playBs i o r flash.size (startBs i o r flash input) xs) a 1 = (refByte i o r flash input xs.reverse a, 0) := by
  have h := play_byte i o r a flash input hck hin hf xs.reverse
  rw [List.reverse_reverse] at h
  exact h
/-- The number of d bytes from the m-th on. -/
def hv (B : Int → Int) (a : Int) : Nat → Nat → Int
  | _, 0 => 0
  | m, d + 1 => B (a + m) + 256 * hv B a (m + 1) d
theorem hv_range (B : Int → Int) (a : Int) (hB : ∀ b, 0 ≤ B b ∧ B b < 256) : ∀ d m, 0 ≤ hv B a m d ∧ hv B a m d < ((256 ^ d : Nat) : Int)
  | 0, m => by unfold hv; exact ⟨by omega, by decide⟩
  | d + 1, m => by
    have h := hv_range B a hB d (m + 1)
    have hb := hB (a + m)
    unfold hv
    rw [Nat.pow_succ]
    generalize 256 ^ d = p at *
    omega
theorem hv_one (B : Int → Int) (a : Int) : hv B a 0 1 = B a := by
  unfold hv hv
  rw [show a + ((0 : Nat) : Int) = a by omega]; omega
theorem hv_four (B : Int → Int) (a : Int) : hv B a 0 4 = B a + 256 * B (a + 1) + 65536 * B (a + 2) + 16777216 * B (a + 3) := by
  unfold hv hv hv hv hv
  rw [show a + ((0 : Nat) : Int) = a by omega, show a + ((0 + 1 : Nat) : Int) = a + 1 by omega, show a + ((0 + 1 + 1 : Nat) : Int) = a + 2 by omega, show a + ((0 + 1 + 1 + 1 : Nat) : Int) = a + 3 by omega]; omega
theorem pow_le4 (d : Nat) (h : d ≤ 3) : 256 ^ d ≤ 16777216 := by
  have e : d = 0 ∨ d = 1 ∨ d = 2 ∨ d = 3 := by omega
  rcases e with rfl | rfl | rfl | rfl <;> decide
set_option maxHeartbeats 4000000 in
theorem ref07_Load (i o r : Int) (flash input : ByteArray) (A : Option Addr) (c : Nat) (xs : List St) (a n : Int) (hr : -9223372036854775808 ≤ r ∧ r ≤ 9223372036854775807) (hck : mmCheck i o r flash.size = 0) (hin : (input.size : Int) = i) (ha : a ≤ 9223372036854775807) (hI : ∀ x ∈ xs, x.a ≤ 9223372036854775807) (hn : xs.length ≤ 1000000) (w : World) (hA : StSl w w.heap.size A xs) :
    Calls Try.prog 49 #[startVal i o r flash input, .slice A xs.length c, .int .i64 a, .int .i64 n] w fun e w' => e = .returned (pairVal (loadRes i o r flash.size (playBs i o r flash.size (startBs i o r flash input) xs) a n)) ∧ Below w.heap.size w w' := by
  have HFN := Lib.hid (fun W => ref07_find i o r flash input a n false hr hck ha W)
  have HBT := Lib.hid (fun b (h0 : 0 ≤ b) (h1 : b ≤ 1099511627776) W h => ref07_byteAt i o r flash input A c xs b hr hck hin h0 h1 hI hn W h)
  have HA := Lib.hid hA
  have HRB := Lib.hid (fun b => refByte_range i o r flash input b xs.reverse)
  by_cases he : (mmFind (mmRegions i o r flash.size) a n false).2 = 0
  · obtain ⟨ha0, ha1, hn14⟩ := found_range hck he
    have hres : ∃ N : Nat, n = (N : Int) ∧ N ≤ 4 ∧ loadRes i o r flash.size (playBs i o r flash.size (startBs i o r flash input) xs) a n = (hv (fun b => refByte i o r flash input xs.reverse b) a 0 N, 0) := by
      rcases hn14 with rfl | rfl
      · exact ⟨1, rfl, by omega, by rw [ref_one i o r a flash input xs hck hin he, hv_one]⟩
      · exact ⟨4, rfl, by omega, by rw [ref_word i o r a flash input xs hck hin he, hv_four]⟩
    obtain ⟨N, rfl, hN, hres⟩ := hres
    rw [hres]
    rw [he] at HFN
    generalize refByte i o r flash input xs.reverse = B at *
    unfold startVal pairVal at *
    clear hr hck hin hI he hA hn14 hres
    go_enter Try.func49, Try.ntmps49
    go_wp2_with fail
    refine (HFN.out _).mono ?_
    rintro e w2 ⟨rfl, hb⟩
    have hx := (hb.block w.heap.size (by simp)).trans (heap_alloc_new w _)
    have HX := Lib.hid hx
    have HB := Lib.hid (bch ((Below.refl _ _).alloc (Nat.le_refl _) _) hb)
    have hwlt := lt_of_blk hx
    have hwle := (bch ((Below.refl _ _).alloc (Nat.le_refl _) _) hb).size
    clear hb hx
    go_wp2_with fail
    go_loopw [11, 12] (fun v j wr => ∃ m : Nat, m ≤ N ∧ v = .int .i64 (hv B a m (N - m)) ∧ j = .int .i64 ((m : Int) - 1) ∧ Below w2.heap.size w2 wr) (fun _ j _ => (intOf j + 1).toNat)
    case atStart => exact ⟨N, by omega, by rw [Nat.sub_self]; rfl, rfl, Below.refl _ _⟩
    case round =>
      obtain ⟨m, hm, rfl, rfl, hK⟩ := hrel
      rcases m with _ | m
      · have HB2 := Lib.hid (bch HB.out hK)
        clear hK
        go_wp2
        go_ret2
        exact ⟨rfl, HB2.out⟩
      · have hx := (hK.block _ hwlt).trans HX.out
        have c0 : wr.cell? ⟨w.heap.size, 0, none⟩ = some (.int .i64 i) := (cell_of_blk hx 0).1
        have c1 : wr.cell? ⟨w.heap.size, 1, none⟩ = some (.int .i64 o) := (cell_of_blk hx 1).1
        have c2 : wr.cell? ⟨w.heap.size, 2, none⟩ = some (.int .i64 r) := (cell_of_blk hx 2).1
        have c3 : wr.cell? ⟨w.heap.size, 3, none⟩ = some (.string flash) := (cell_of_blk hx 3).1
        have c4 : wr.cell? ⟨w.heap.size, 4, none⟩ = some (.string input) := (cell_of_blk hx 4).1
        have ej : (((m + 1 : Nat) : Int) - 1) = (m : Int) := by omega
        rw [ej]
        have hstep : hv B a m (N - m) = B (a + m) + 256 * hv B a (m + 1) (N - (m + 1)) := by
          rw [show N - m = (N - (m + 1)) + 1 by omega]; rfl
        obtain ⟨x0, x1⟩ := hv_range B a HRB.out (N - (m + 1)) (m + 1)
        have x2 := pow_le4 (N - (m + 1)) (by omega)
        obtain ⟨y0, y1⟩ := HRB.out (a + m)
        have HC := Lib.hid (HBT.out (a + m) (by omega) (by omega))
        have HST := Lib.hid hstep
        have hwr : StSl wr wr.heap.size A xs := (HA.out.below (bch HB.out hK) (Nat.le_refl _)).more (bch HB.out hK).size
        have HWR := Lib.hid hwr
        have e1 : wrap64 (a + m) = a + m := by unfold wrap64; omega
        generalize B (a + m) = y at *
        generalize hv B a (m + 1) (N - (m + 1)) = x at *
        have e2 : wrap64 (256 * x + y) = 256 * x + y := by unfold wrap64; omega
        have HK := Lib.hid hK
        clear hK hx ej hstep hwr
        go_wp2_with fail
        refine (HC.out _ HWR.out).mono ?_
        rintro e w3 ⟨rfl, hb3⟩
        have HB3 : Hid (Below w2.heap.size w2 w3) := Lib.hid (bch HK.out hb3)
        clear hb3
        go_wp2
        go_roundw
        case rel => exact ⟨m, by omega, by rw [HST.out, Int.add_comm], rfl, HB3.out⟩
        case measure => simp [intOf]
  · rw [show loadRes i o r flash.size (playBs i o r flash.size (startBs i o r flash input) xs) a n = (0, (mmFind (mmRegions i o r flash.size) a n false).2) by unfold loadRes; rw [if_pos he]]
    unfold startVal pairVal at *
    generalize (mmFind (mmRegions i o r flash.size) a n false).2 = e at *
    have hq : (e != 0) = true := by rw [bne_iff_ne]; exact he
    clear hr hck hin hI he hA HBT HRB
    go_enter Try.func49, Try.ntmps49
    go_wp2_with fail
    refine (HFN.out _).mono ?_
    rintro e2 w2 ⟨rfl, hb⟩
    have HB := Lib.hid (bch ((Below.refl _ _).alloc (Nat.le_refl _) _) hb)
    clear hb
    go_wp2
    go_ret2
    exact ⟨rfl, HB.out⟩
end Go.Proofs.Ytgipelnjbpkfjaa
