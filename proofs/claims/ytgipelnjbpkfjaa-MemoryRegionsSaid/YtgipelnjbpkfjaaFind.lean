/- Contracts of has and Find of memmap, of Find of hauberkref05, and of Rail: over regions that begin at 0 or above and are not too great. -/
import Derived.Test.YtgipelnjbpkfjaaRegions
namespace Go.Proofs.Ytgipelnjbpkfjaa
open Go.RowKit

/-- Has a region so many bytes from an address on? -/
def hasB (x : Rg) (a n : Int) : Bool := decide (x.base ≤ a) && (decide (n ≤ x.len) && decide (a - x.base ≤ x.len - n))
/-- The region of an access, from the k-th on: its place and the error. -/
def mmSeek (a n : Int) (write : Bool) : List Rg → Nat → Int × Int
  | [], _ => (0, 8)
  | x :: xs, k => if hasB x a n then (if write && !x.write then (0, 8) else ((k : Int), 0)) else mmSeek a n write xs (k + 1)
def mmFind (xs : List Rg) (a n : Int) (write : Bool) : Int × Int :=
  if n ≠ 1 ∧ n ≠ 4 then (0, 2) else if a.tmod n ≠ 0 then (0, 8) else mmSeek a n write xs 0
/-- A region of which an access may be asked. -/
def Rg.fine (x : Rg) : Prop := 0 ≤ x.base ∧ x.base ≤ 1099511627776 ∧ -9223372036854775808 ≤ x.len ∧ x.len ≤ 1099511627776
def pairVal (p : Int × Int) : Value := .tuple #[.int .i64 p.1, .int .i64 p.2]
theorem memmap_has (x : Rg) (a n : Int) (hx : x.fine) (ha : a ≤ 9223372036854775807) (hn : 0 < n) (w : World) :
    Calls Try.prog 39 #[.agg #[.int .i64 x.base, .int .i64 x.len, .bool x.write], .int .i64 a, .int .i64 n] w fun e w' => e = .returned (.bool (hasB x a n)) ∧ Below w.heap.size w w' := by
  obtain ⟨b, l, wr⟩ := x
  obtain ⟨h1, h2, h3, h4⟩ := hx
  simp only at h1 h2 h3 h4 ⊢
  by_cases h : b ≤ a
  · have e1 : wrap64 (a - b) = a - b := by unfold wrap64; omega
    by_cases h' : n ≤ l
    · have e2 : wrap64 (l - n) = l - n := by unfold wrap64; omega
      go_enter Try.func39, Try.ntmps39
      go_wp2
      all_goals
        go_ret
        exact ⟨ret_bool (by unfold hasB; rw [Bool.eq_iff_iff]; simp; omega), (Below.refl _ _).alloc (Nat.le_refl _) _⟩
    · go_enter Try.func39, Try.ntmps39
      go_wp2
      all_goals
        go_ret
        exact ⟨ret_bool (by unfold hasB; rw [Bool.eq_iff_iff]; simp; omega), (Below.refl _ _).alloc (Nat.le_refl _) _⟩
  · go_enter Try.func39, Try.ntmps39
    go_wp2
    all_goals
      go_ret
      exact ⟨ret_bool (by unfold hasB; rw [Bool.eq_iff_iff]; simp; omega), (Below.refl _ _).alloc (Nat.le_refl _) _⟩
theorem mmSeek_drop (a n : Int) (write : Bool) (xs : List Rg) (k : Nat) (h : k < xs.length) : mmSeek a n write (xs.drop k) k =
    if hasB (xs.getD k rgNone) a n then (if write && !(xs.getD k rgNone).write then (0, 8) else ((k : Int), 0)) else mmSeek a n write (xs.drop (k + 1)) (k + 1) := by
  rw [List.drop_eq_getElem_cons h]
  simp [mmSeek, List.getD, List.getElem?_eq_getElem h]
theorem memmap_Find_arg (A : Option Addr) (c : Nat) (xs : List Rg) (a n : Int) (write : Bool) (h1 : n ≠ 1) (h4 : n ≠ 4) (w : World) :
    Calls Try.prog 20 #[.slice A xs.length c, .int .i64 a, .int .i64 n, .bool write] w fun e w' => e = .returned (pairVal (mmFind xs a n write)) ∧ w = w' := by
  have q1 : (n != 1) = true := by rw [bne_iff_ne]; exact h1
  have q4 : (n != 4) = true := by rw [bne_iff_ne]; exact h4
  rw [show mmFind xs a n write = (0, 2) by unfold mmFind; rw [if_pos ⟨h1, h4⟩]]
  clear h1 h4
  go_enter Try.func20, Try.ntmps20
  go_wp2_with fail
  go_ret2
  exact ⟨rfl, rfl⟩
theorem memmap_Find_odd (A : Option Addr) (c : Nat) (xs : List Rg) (a n : Int) (write : Bool) (h : n = 1 ∨ n = 4) (ho : a.tmod n ≠ 0) (w : World) :
    Calls Try.prog 20 #[.slice A xs.length c, .int .i64 a, .int .i64 n, .bool write] w fun e w' => e = .returned (pairVal (mmFind xs a n write)) ∧ w = w' := by
  have q1 : (a.tmod n != 0) = true := by rw [bne_iff_ne]; exact ho
  rw [show mmFind xs a n write = (0, 8) by unfold mmFind; rw [if_neg (by omega), if_pos ho]]
  rcases h with rfl | rfl
  · exact absurd (Int.tmod_one a) ho
  · clear ho
    go_enter Try.func20, Try.ntmps20
    go_wp2_with fail
    go_ret2
    exact ⟨rfl, rfl⟩
theorem memmap_Find_seek1 (A : Option Addr) (c : Nat) (xs : List Rg) (a : Int) (write : Bool) (ho : a.tmod 1 = 0) (hn : xs.length ≤ 1000000) (hf : ∀ x ∈ xs, x.fine) (ha : a ≤ 9223372036854775807) (w : World) (hA : RgSl w w.heap.size A xs) :
    Calls Try.prog 20 #[.slice A xs.length c, .int .i64 a, .int .i64 1, .bool write] w fun e w' => e = .returned (pairVal (mmFind xs a 1 write)) ∧ Below w.heap.size w w' := by
  have q1 : (a.tmod 1 != 0) = false := by rw [bne_eq_false_iff_eq]; exact ho
  rw [show mmFind xs a 1 write = mmSeek a 1 write xs 0 by unfold mmFind; rw [if_neg (by omega), if_neg (by omega)]]
  have HA := Lib.hid hA
  have HF := Lib.hid hf
  have HO := Lib.hid ho
  clear hA hf ho
  go_enter Try.func20, Try.ntmps20
  go_wp2_with fail
  go_loopw [10, 11, 26] (fun _ _ i wr => ∃ k : Nat, k ≤ xs.length ∧ i = .int .i64 k ∧ Below w.heap.size w wr ∧ Hid (mmSeek a 1 write (xs.drop k) k = mmSeek a 1 write xs 0)) (fun _ _ i _ => xs.length - (intOf i).toNat)
  case atStart => exact ⟨0, Nat.zero_le _, rfl, Below.refl _ _, Lib.hid rfl⟩
  case round =>
    obtain ⟨k, hk, rfl, hBw, HK⟩ := hrel
    by_cases hlt : k < xs.length
    · have hne : xs ≠ [] := by intro e; rw [e] at hlt; simp at hlt
      obtain ⟨b, off, rfl, hl1, hcell⟩ := HA.out hne
      obtain ⟨h0, h1, h2⟩ := hcell k hlt
      rw [← hBw.cell hl1] at h0 h1 h2
      have hxf : (xs.getD k rgNone).fine := HF.out _ (by rw [List.getD, List.getElem?_eq_getElem hlt]; exact List.getElem_mem hlt)
      have hd := mmSeek_drop a 1 write xs k hlt
      rw [HK.out] at hd
      generalize xs.getD k rgNone = x at *
      obtain ⟨xb, xl, xw⟩ := x
      simp only at h0 h1 h2
      have HBw := Lib.hid hBw
      have HX := Lib.hid hxf
      have HD := Lib.hid hd
      have hq := (rfl : hasB ⟨xb, xl, xw⟩ a 1 = hasB ⟨xb, xl, xw⟩ a 1)
      clear hcell hBw hxf hd hq
      go_wp2_with fail
      refine (memmap_has ⟨xb, xl, xw⟩ a 1 HX.out ha (by decide) _).mono ?_
      rintro e w2 ⟨rfl, hb2⟩
      have hb3 := Lib.hid (bch (bal HBw.out (.cells #[.int .i64 xb, .int .i64 xl, .bool xw] 37)) hb2)
      have hc := (hb2.block wr.heap.size (by simp)).trans (heap_alloc_new wr _)
      have c2 : w2.cell? ⟨wr.heap.size, 2, none⟩ = some (.bool xw) := (cell_of_blk hc 2).1
      clear hc hb2
      cases hh : hasB ⟨xb, xl, xw⟩ a 1
      · rw [hh] at HD
        go_wp2_with fail
        go_roundw
        case rel => exact ⟨k + 1, by omega, by go_num, hb3.out, Lib.hid (by have := HD.out; simp at this; exact this.symm)⟩
        case measure => simp [intOf]; omega
      · rw [hh] at HD
        cases write
        · go_wp2_with fail
          go_ret2
          refine ⟨?_, hb3.out⟩
          rw [show mmSeek a 1 false xs 0 = ((k : Int), 0) from by have := HD.out; simp at this; exact this]; rfl
        · cases xw
          · go_wp2_with fail
            go_ret2
            refine ⟨?_, hb3.out⟩
            rw [show mmSeek a 1 true xs 0 = (0, 8) from by have := HD.out; simp at this; exact this]; rfl
          · go_wp2_with fail
            go_ret2
            refine ⟨?_, hb3.out⟩
            rw [show mmSeek a 1 true xs 0 = ((k : Int), 0) from by have := HD.out; simp at this; exact this]; rfl
    · obtain rfl : k = xs.length := by omega
      have HBw := Lib.hid hBw
      clear hBw
      go_wp2_with fail
      go_ret2
      refine ⟨?_, HBw.out⟩
      rw [← HK.out, List.drop_length]; rfl
theorem memmap_Find_seek4 (A : Option Addr) (c : Nat) (xs : List Rg) (a : Int) (write : Bool) (ho : a.tmod 4 = 0) (hn : xs.length ≤ 1000000) (hf : ∀ x ∈ xs, x.fine) (ha : a ≤ 9223372036854775807) (w : World) (hA : RgSl w w.heap.size A xs) :
    Calls Try.prog 20 #[.slice A xs.length c, .int .i64 a, .int .i64 4, .bool write] w fun e w' => e = .returned (pairVal (mmFind xs a 4 write)) ∧ Below w.heap.size w w' := by
  have q1 : (a.tmod 4 != 0) = false := by rw [bne_eq_false_iff_eq]; exact ho
  rw [show mmFind xs a 4 write = mmSeek a 4 write xs 0 by unfold mmFind; rw [if_neg (by omega), if_neg (by omega)]]
  have HA := Lib.hid hA
  have HF := Lib.hid hf
  have HO := Lib.hid ho
  clear hA hf ho
  go_enter Try.func20, Try.ntmps20
  go_wp2_with fail
  go_loopw [10, 11, 26] (fun _ _ i wr => ∃ k : Nat, k ≤ xs.length ∧ i = .int .i64 k ∧ Below w.heap.size w wr ∧ Hid (mmSeek a 4 write (xs.drop k) k = mmSeek a 4 write xs 0)) (fun _ _ i _ => xs.length - (intOf i).toNat)
  case atStart => exact ⟨0, Nat.zero_le _, rfl, Below.refl _ _, Lib.hid rfl⟩
  case round =>
    obtain ⟨k, hk, rfl, hBw, HK⟩ := hrel
    by_cases hlt : k < xs.length
    · have hne : xs ≠ [] := by intro e; rw [e] at hlt; simp at hlt
      obtain ⟨b, off, rfl, hl1, hcell⟩ := HA.out hne
      obtain ⟨h0, h1, h2⟩ := hcell k hlt
      rw [← hBw.cell hl1] at h0 h1 h2
      have hxf : (xs.getD k rgNone).fine := HF.out _ (by rw [List.getD, List.getElem?_eq_getElem hlt]; exact List.getElem_mem hlt)
      have hd := mmSeek_drop a 4 write xs k hlt
      rw [HK.out] at hd
      generalize xs.getD k rgNone = x at *
      obtain ⟨xb, xl, xw⟩ := x
      simp only at h0 h1 h2
      have HBw := Lib.hid hBw
      have HX := Lib.hid hxf
      have HD := Lib.hid hd
      have hq := (rfl : hasB ⟨xb, xl, xw⟩ a 4 = hasB ⟨xb, xl, xw⟩ a 4)
      clear hcell hBw hxf hd hq
      go_wp2_with fail
      refine (memmap_has ⟨xb, xl, xw⟩ a 4 HX.out ha (by decide) _).mono ?_
      rintro e w2 ⟨rfl, hb2⟩
      have hb3 := Lib.hid (bch (bal HBw.out (.cells #[.int .i64 xb, .int .i64 xl, .bool xw] 37)) hb2)
      have hc := (hb2.block wr.heap.size (by simp)).trans (heap_alloc_new wr _)
      have c2 : w2.cell? ⟨wr.heap.size, 2, none⟩ = some (.bool xw) := (cell_of_blk hc 2).1
      clear hc hb2
      cases hh : hasB ⟨xb, xl, xw⟩ a 4
      · rw [hh] at HD
        go_wp2_with fail
        go_roundw
        case rel => exact ⟨k + 1, by omega, by go_num, hb3.out, Lib.hid (by have := HD.out; simp at this; exact this.symm)⟩
        case measure => simp [intOf]; omega
      · rw [hh] at HD
        cases write
        · go_wp2_with fail
          go_ret2
          refine ⟨?_, hb3.out⟩
          rw [show mmSeek a 4 false xs 0 = ((k : Int), 0) from by have := HD.out; simp at this; exact this]; rfl
        · cases xw
          · go_wp2_with fail
            go_ret2
            refine ⟨?_, hb3.out⟩
            rw [show mmSeek a 4 true xs 0 = (0, 8) from by have := HD.out; simp at this; exact this]; rfl
          · go_wp2_with fail
            go_ret2
            refine ⟨?_, hb3.out⟩
            rw [show mmSeek a 4 true xs 0 = ((k : Int), 0) from by have := HD.out; simp at this; exact this]; rfl
    · obtain rfl : k = xs.length := by omega
      have HBw := Lib.hid hBw
      clear hBw
      go_wp2_with fail
      go_ret2
      refine ⟨?_, HBw.out⟩
      rw [← HK.out, List.drop_length]; rfl
end Go.Proofs.Ytgipelnjbpkfjaa
