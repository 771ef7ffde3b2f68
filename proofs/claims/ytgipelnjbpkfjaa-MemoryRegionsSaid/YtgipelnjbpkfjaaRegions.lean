/- Contracts of Regions of both texts of layer 5, and of Same, has, Rail. -/
import Derived.Test.YtgipelnjbpkfjaaMemmap
import Derived.Deep.QuietTactic
import Derived.BigQuiet
import Derived.Deep.RegionHeld3
namespace Go.Proofs.Ytgipelnjbpkfjaa
open Go.RowKit

/-- A region. -/
structure Rg where
  base : Int
  len : Int
  write : Bool
def rgNone : Rg := ⟨0, 0, false⟩
def mmRegions (i o r f : Int) : List Rg := [⟨0, f, false⟩, ⟨536936448, i, true⟩, ⟨537001984, o, true⟩, ⟨537133056, r, true⟩, ⟨537395200, r, true⟩, ⟨537919488, 4, true⟩, ⟨538968064, 4, true⟩]
/-- The regions' cells. -/
def rgCells (i o r f : Int) : Array Value := #[.int .i64 0, .int .i64 f, .bool false, .int .i64 536936448, .int .i64 i, .bool true, .int .i64 537001984, .int .i64 o, .bool true, .int .i64 537133056, .int .i64 r, .bool true,
  .int .i64 537395200, .int .i64 r, .bool true, .int .i64 537919488, .int .i64 4, .bool true, .int .i64 538968064, .int .i64 4, .bool true]
/-- What Regions returns where sizes may be. -/
def RgRet (i o r f : Int) (w0 : World) (e : Ending) (w' : World) : Prop :=
  ∃ g, e = .returned (.tuple #[.slice (some ⟨g, 0, none⟩) 7 7, .int .i64 0]) ∧ w'.heap[g]? = some (.cells (rgCells i o r f) 37 (0, 0)) ∧ w0.heap.size ≤ g ∧ Below w0.heap.size w0 w'
theorem memmap_Regions_no (i o r f : Int) (h : mmCheck i o r f ≠ 0) (w : World) :
    Calls Try.prog 14 #[.agg #[.int .i64 i, .int .i64 o, .int .i64 r], .int .i64 f] w fun e w' => e = .returned (.tuple #[.slice none 0 0, .int .i64 (mmCheck i o r f)]) ∧ Below w.heap.size w w' := by
  have hq : (mmCheck i o r f != 0) = true := by rw [bne_iff_ne]; exact h
  clear h
  go_enter Try.func14, Try.ntmps14
  go_wp2_with (go_at_call 17; refine (memmap_Check _ _ _ _ _).mono ?_; rintro e w2 ⟨rfl, hb⟩)
  go_ret2
  exact ⟨rfl, bch ((Below.refl _ _).alloc (Nat.le_refl _) _) hb⟩
theorem memmap_Regions_yes (i o r f : Int) (h : mmCheck i o r f = 0) (w : World) :
    Calls Try.prog 14 #[.agg #[.int .i64 i, .int .i64 o, .int .i64 r], .int .i64 f] w (RgRet i o r f w) := by
  have H := Lib.hid h
  clear h
  go_enter Try.func14, Try.ntmps14
  go_wp2_with fail
  refine (memmap_Check _ _ _ _ _).mono ?_
  rintro e w2 ⟨rfl, hb⟩
  rw [H.out]
  have hx := (hb.block w.heap.size (by simp)).trans (heap_alloc_new w _)
  have c0 := (cell_of_blk hx 0).1
  have c1 := (cell_of_blk hx 1).1
  have c2 := (cell_of_blk hx 2).1
  simp only [List.getElem?_toArray, List.getElem?_cons_zero, List.getElem?_cons_succ] at c0 c1 c2
  have HB := Lib.hid hb
  clear hb hx
  go_wp2
  go_ret2
  exact ⟨w2.heap.size, rfl, heap_alloc_new _ _, by have := HB.out.size; simp at this; omega, bal (bch ((Below.refl _ _).alloc (Nat.le_refl _) _) HB.out) _⟩
theorem ref05_Regions_no (i o r f : Int) (hr : -9223372036854775808 ≤ r ∧ r ≤ 9223372036854775807) (h : mmCheck i o r f ≠ 0) (w : World) :
    Calls Try.prog 15 #[.agg #[.int .i64 i, .int .i64 o, .int .i64 r], .int .i64 f] w fun e w' => e = .returned (.tuple #[.slice none 0 0, .int .i64 (mmCheck i o r f)]) ∧ Below w.heap.size w w' := by
  have hq : (mmCheck i o r f != 0) = true := by rw [bne_iff_ne]; exact h
  clear h
  go_enter Try.func15, Try.ntmps15
  go_wp2_with (go_at_call 18; refine (ref05_Check _ _ _ _ hr _).mono ?_; rintro e w2 ⟨rfl, hb⟩)
  go_ret2
  exact ⟨rfl, bch ((Below.refl _ _).alloc (Nat.le_refl _) _) hb⟩
theorem ref05_Regions_yes (i o r f : Int) (hr : -9223372036854775808 ≤ r ∧ r ≤ 9223372036854775807) (h : mmCheck i o r f = 0) (w : World) :
    Calls Try.prog 15 #[.agg #[.int .i64 i, .int .i64 o, .int .i64 r], .int .i64 f] w (RgRet i o r f w) := by
  have H := Lib.hid h
  clear h
  go_enter Try.func15, Try.ntmps15
  go_wp2_with fail
  refine (ref05_Check _ _ _ _ hr _).mono ?_
  rintro e w2 ⟨rfl, hb⟩
  rw [H.out]
  have hx := (hb.block w.heap.size (by simp)).trans (heap_alloc_new w _)
  have c0 := (cell_of_blk hx 0).1
  have c1 := (cell_of_blk hx 1).1
  have c2 := (cell_of_blk hx 2).1
  simp only [List.getElem?_toArray, List.getElem?_cons_zero, List.getElem?_cons_succ] at c0 c1 c2
  have HB := Lib.hid hb
  clear hb hx
  go_wp2
  go_ret2
  exact ⟨w2.heap.size, rfl, heap_alloc_new _ _, by have := HB.out.size; simp at this; omega, bal (bch ((Below.refl _ _).alloc (Nat.le_refl _) _) HB.out) _⟩

def rgCell (x : Rg) : List Value := [.int .i64 x.base, .int .i64 x.len, .bool x.write]
/-- From this address on lie these regions, below block B. -/
def RgAt (w : World) (B b off : Nat) (xs : List Rg) : Prop :=
  b < B ∧ ∀ k, k < xs.length → w.cell? ⟨b, off + k * 3, none⟩ = some (.int .i64 (xs.getD k rgNone).base) ∧ w.cell? ⟨b, off + k * 3 + 1, none⟩ = some (.int .i64 (xs.getD k rgNone).len) ∧
    w.cell? ⟨b, off + k * 3 + 2, none⟩ = some (.bool (xs.getD k rgNone).write)
def RgSl (w : World) (B : Nat) (A : Option Addr) (xs : List Rg) : Prop := xs ≠ [] → ∃ b off, A = some ⟨b, off, none⟩ ∧ RgAt w B b off xs
theorem RgAt.below {w w' : World} {B b off : Nat} {xs : List Rg} (h : RgAt w B b off xs) {B' : Nat} (hb : Below B' w w') (hB : B ≤ B') : RgAt w' B b off xs := by
  refine ⟨h.1, fun k hk => ?_⟩
  obtain ⟨h0, h1, h2⟩ := h.2 k hk
  have hlt : b < B' := Nat.lt_of_lt_of_le h.1 hB
  exact ⟨(hb.cell hlt).trans h0, (hb.cell hlt).trans h1, (hb.cell hlt).trans h2⟩
theorem RgSl.below {w w' : World} {B : Nat} {A : Option Addr} {xs : List Rg} (h : RgSl w B A xs) {B' : Nat} (hb : Below B' w w') (hB : B ≤ B') : RgSl w' B A xs :=
  fun hne => let ⟨b, off, e, ha⟩ := h hne; ⟨b, off, e, ha.below hb hB⟩
theorem RgSl.more {w : World} {B B' : Nat} {A : Option Addr} {xs : List Rg} (h : RgSl w B A xs) (hB : B ≤ B') : RgSl w B' A xs :=
  fun hne => let ⟨b, off, e, ha⟩ := h hne; ⟨b, off, e, ⟨Nat.lt_of_lt_of_le ha.1 hB, ha.2⟩⟩
theorem RgSl.next {w w' : World} {A : Option Addr} {xs : List Rg} (h : RgSl w w.heap.size A xs) (hb : Below w.heap.size w w') : RgSl w' w'.heap.size A xs := (h.below hb (Nat.le_refl _)).more hb.size
theorem RgSl.drew' {w : World} {A : Option Addr} {xs : List Rg} (h : RgSl w w.heap.size A xs) : RgSl w.drew w.drew.heap.size A xs := h
theorem rgSl_of {w : World} {g : Nat} {i o r f : Int} {t : TypeId} (h : w.heap[g]? = some (.cells (rgCells i o r f) t (0, 0))) : RgSl w w.heap.size (some ⟨g, 0, none⟩) (mmRegions i o r f) := by
  intro _
  refine ⟨g, 0, rfl, lt_of_blk h, fun k hk => ?_⟩
  have hk' : k < 7 := hk
  have e : k = 0 ∨ k = 1 ∨ k = 2 ∨ k = 3 ∨ k = 4 ∨ k = 5 ∨ k = 6 := by omega
  rcases e with rfl | rfl | rfl | rfl | rfl | rfl | rfl <;> exact ⟨(cell_of_blk h _).1, (cell_of_blk h _).1, (cell_of_blk h _).1⟩
theorem law05_Same (A B : Option Addr) (c d : Nat) (xs : List Rg) (hn : xs.length ≤ 9223372036854775806) (w : World) (hA : RgSl w w.heap.size A xs) (hB : RgSl w w.heap.size B xs) :
    Calls Try.prog 16 #[.slice A xs.length c, .slice B xs.length d] w fun e w' => e = .returned (.bool true) ∧ Below w.heap.size w w' := by
  have HA := Lib.hid hA
  have HB := Lib.hid hB
  clear hA hB
  go_enter Try.func16, Try.ntmps16
  go_wp2_with fail
  go_loopw [5] (fun i wr => ∃ k : Nat, k ≤ xs.length ∧ i = .int .i64 k ∧ Below w.heap.size w wr) (fun i _ => xs.length - (intOf i).toNat)
  case atStart => exact ⟨0, Nat.zero_le _, rfl, Below.refl _ _⟩
  case round =>
    obtain ⟨k, hk, rfl, hBw⟩ := hrel
    by_cases hlt : k < xs.length
    · have hne : xs ≠ [] := by intro e; rw [e] at hlt; simp at hlt
      obtain ⟨b, off, rfl, hl1, hcell⟩ := HA.out hne
      obtain ⟨h0, h1, h2⟩ := hcell k hlt
      obtain ⟨b', off', rfl, hl2, hcell2⟩ := HB.out hne
      obtain ⟨g0, g1, g2⟩ := hcell2 k hlt
      rw [← hBw.cell hl1] at h0 h1 h2
      rw [← hBw.cell hl2] at g0 g1 g2
      generalize xs.getD k rgNone = x at *
      have HBw := Lib.hid hBw
      clear hcell hcell2 hBw
      go_wp2_with fail
      go_quiet (fail)
      go_wp2
      go_roundw
      case rel => exact ⟨k + 1, by omega, by go_num, ⟨HBw.out.os, HBw.out.tape, HBw.out.output, HBw.out.size, HBw.out.block⟩⟩
      case measure => simp [intOf]; omega
    · obtain rfl : k = xs.length := by omega
      have HBw := Lib.hid hBw
      clear hBw
      go_wp2
      go_ret
      exact ⟨rfl, HBw.out⟩
end Go.Proofs.Ytgipelnjbpkfjaa
