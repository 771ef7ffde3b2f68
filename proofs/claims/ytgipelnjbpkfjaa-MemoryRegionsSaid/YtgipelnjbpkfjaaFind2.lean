/- The contract of Find of hauberkref05, and both contracts of Find whole. -/
import Derived.Test.YtgipelnjbpkfjaaFind
namespace Go.Proofs.Ytgipelnjbpkfjaa
open Go.RowKit
theorem below_drewN {B : Nat} {a w : World} (h : Below B a w) (n : Nat) : Below B a (w.drewN n) := ⟨h.os, h.tape, h.output, h.size, h.block⟩
theorem memmap_Find (A : Option Addr) (c : Nat) (xs : List Rg) (a n : Int) (write : Bool) (hn : xs.length ≤ 1000000) (hf : ∀ x ∈ xs, x.fine) (ha : a ≤ 9223372036854775807) (w : World) (hA : RgSl w w.heap.size A xs) :
    Calls Try.prog 20 #[.slice A xs.length c, .int .i64 a, .int .i64 n, .bool write] w fun e w' => e = .returned (pairVal (mmFind xs a n write)) ∧ Below w.heap.size w w' := by
  by_cases h1 : n = 1
  · subst h1
    exact memmap_Find_seek1 A c xs a write (Int.tmod_one a) hn hf ha w hA
  · by_cases h4 : n = 4
    · subst h4
      by_cases ho : a.tmod 4 = 0
      · exact memmap_Find_seek4 A c xs a write ho hn hf ha w hA
      · exact (memmap_Find_odd A c xs a 4 write (.inr rfl) ho w).mono fun e w' h => ⟨h.1, by rw [← h.2]; exact Below.refl _ _⟩
    · exact (memmap_Find_arg A c xs a n write h1 h4 w).mono fun e w' h => ⟨h.1, by rw [← h.2]; exact Below.refl _ _⟩
theorem ref05_Find_arg (A : Option Addr) (c : Nat) (xs : List Rg) (a n : Int) (write : Bool) (h1 : n ≠ 1) (h4 : n ≠ 4) (w : World) :
    Calls Try.prog 21 #[.slice A xs.length c, .int .i64 a, .int .i64 n, .bool write] w fun e w' => e = .returned (pairVal (mmFind xs a n write)) ∧ w = w' := by
  have q1 : (n != 1) = true := by rw [bne_iff_ne]; exact h1
  have q4 : (n != 4) = true := by rw [bne_iff_ne]; exact h4
  rw [show mmFind xs a n write = (0, 2) by unfold mmFind; rw [if_pos ⟨h1, h4⟩]]
  clear h1 h4
  go_enter Try.func21, Try.ntmps21
  go_wp2_with fail
  go_ret2
  exact ⟨rfl, rfl⟩
theorem ref05_Find_odd (A : Option Addr) (c : Nat) (xs : List Rg) (a n : Int) (write : Bool) (h : n = 1 ∨ n = 4) (ho : a.tmod n ≠ 0) (w : World) :
    Calls Try.prog 21 #[.slice A xs.length c, .int .i64 a, .int .i64 n, .bool write] w fun e w' => e = .returned (pairVal (mmFind xs a n write)) ∧ w = w' := by
  have q1 : (a.tmod n != 0) = true := by rw [bne_iff_ne]; exact ho
  rw [show mmFind xs a n write = (0, 8) by unfold mmFind; rw [if_neg (by omega), if_pos ho]]
  rcases h with rfl | rfl
  · exact absurd (Int.tmod_one a) ho
  · clear ho
    go_enter Try.func21, Try.ntmps21
    go_wp2_with fail
    go_ret2
    exact ⟨rfl, rfl⟩
set_option maxHeartbeats 1000000 in
theorem ref05_Find_seek1 (A : Option Addr) (c : Nat) (xs : List Rg) (a : Int) (write : Bool) (ho : a.tmod 1 = 0) (hn : xs.length ≤ 1000000) (hf : ∀ x ∈ xs, x.fine) (ha : a ≤ 9223372036854775807) (w : World) (hA : RgSl w w.heap.size A xs) :
    Calls Try.prog 21 #[.slice A xs.length c, .int .i64 a, .int .i64 1, .bool write] w fun e w' => e = .returned (pairVal (mmFind xs a 1 write)) ∧ Below w.heap.size w w' := by
  have q1 : (a.tmod 1 != 0) = false := by rw [bne_eq_false_iff_eq]; exact ho
  rw [show mmFind xs a 1 write = mmSeek a 1 write xs 0 by unfold mmFind; rw [if_neg (by omega), if_neg (by omega)]]
  have HA := Lib.hid hA
  have HF := Lib.hid hf
  have HO := Lib.hid ho
  clear hA hf ho
  go_enter Try.func21, Try.ntmps21
  go_wp2_with fail
  go_loopw [10] (fun i wr => ∃ k : Nat, k ≤ xs.length ∧ i = .int .i64 k ∧ Below w.heap.size w wr ∧ Hid (mmSeek a 1 write (xs.drop k) k = mmSeek a 1 write xs 0)) (fun i _ => xs.length - (intOf i).toNat)
  case atStart => exact ⟨0, Nat.zero_le _, rfl, Below.refl _ _, Lib.hid rfl⟩
  case round =>
    obtain ⟨k, hk, rfl, hBw, HK⟩ := hrel
    by_cases hlt : k < xs.length
    · have hne : xs ≠ [] := by intro e; rw [e] at hlt; simp at hlt
      obtain ⟨b, off, rfl, hl1, hcell⟩ := HA.out hne
      obtain ⟨h0, h1, h2⟩ := hcell k hlt
      rw [← hBw.cell hl1] at h0 h1 h2
      have hxf : (xs.getD k rgNone).fine := HF.out _ (by rw [List.getD, List.getElem?_eq_getElem hlt]; exact List.getElem_mem hlt)
      have hd := mmSeek_drop a 1 write xs k hlt
      rw [HK.out] at hd
      generalize xs.getD k rgNone = x at *
      obtain ⟨xb, xl, xw⟩ := x
      obtain ⟨x1, x2, x3, x4⟩ := hxf
      simp only at h0 h1 h2 x1 x2 x3 x4
      have HBw := Lib.hid hBw
      have HD := Lib.hid hd
      clear hcell hBw hd
      by_cases p1 : xb ≤ a
      · by_cases p2 : 1 ≤ xl
        · have e1 : wrap64 (a - xb) = a - xb := by unfold wrap64; omega
          have e2 : wrap64 (xl - 1) = xl - 1 := by unfold wrap64; omega
          by_cases p3 : a - xb ≤ xl - 1
          · have hh : hasB ⟨xb, xl, xw⟩ a 1 = true := by unfold hasB; simp; omega
            rw [hh] at HD
            have HH := Lib.hid hh
            clear hh
            go_wp2_with fail
            go_quiet (fail)
            cases write
            · go_wp2_with fail
              go_ret2
              refine ⟨?_, below_drewN HBw.out _⟩
              rw [show mmSeek a 1 false xs 0 = ((k : Int), 0) from by have := HD.out; simp at this; exact this]; rfl
            · cases xw
              · go_wp2_with fail
                go_ret2
                refine ⟨?_, below_drewN HBw.out _⟩
                rw [show mmSeek a 1 true xs 0 = (0, 8) from by have := HD.out; simp at this; exact this]; rfl
              · go_wp2_with fail
                go_ret2
                refine ⟨?_, below_drewN HBw.out _⟩
                rw [show mmSeek a 1 true xs 0 = ((k : Int), 0) from by have := HD.out; simp at this; exact this]; rfl
          · have d3 : decide (a - xb ≤ xl - 1) = false := by simp; omega
            have hh : hasB ⟨xb, xl, xw⟩ a 1 = false := by unfold hasB; simp; omega
            rw [hh] at HD
            clear hh
            go_wp2_with fail
            go_quiet (fail)
            go_wp2_with fail
            go_roundw
            case rel => exact ⟨k + 1, by omega, by go_num, below_drewN HBw.out _, Lib.hid (by have := HD.out; simp at this; exact this.symm)⟩
            case measure => simp [intOf]; omega
        · have d2 : decide (1 ≤ xl) = false := by simp; omega
          have hh : hasB ⟨xb, xl, xw⟩ a 1 = false := by unfold hasB; simp; omega
          rw [hh] at HD
          clear hh
          go_wp2_with fail
          go_quiet (fail)
          go_wp2_with fail
          go_roundw
          case rel => exact ⟨k + 1, by omega, by go_num, below_drewN HBw.out _, Lib.hid (by have := HD.out; simp at this; exact this.symm)⟩
          case measure => simp [intOf]; omega
      · have d1 : decide (xb ≤ a) = false := by simp; omega
        have hh : hasB ⟨xb, xl, xw⟩ a 1 = false := by unfold hasB; simp; omega
        rw [hh] at HD
        clear hh
        go_wp2_with fail
        go_quiet (fail)
        go_wp2_with fail
        go_roundw
        case rel => exact ⟨k + 1, by omega, by go_num, below_drewN HBw.out _, Lib.hid (by have := HD.out; simp at this; exact this.symm)⟩
        case measure => simp [intOf]; omega
    · obtain rfl : k = xs.length := by omega
      have HBw := Lib.hid hBw
      clear hBw
      go_wp2_with fail
      go_ret2
      refine ⟨?_, HBw.out⟩
      rw [← HK.out, List.drop_length]; rfl
set_option maxHeartbeats 1000000 in
theorem ref05_Find_seek4 (A : Option Addr) (c : Nat) (xs : List Rg) (a : Int) (write : Bool) (ho : a.tmod 4 = 0) (hn : xs.length ≤ 1000000) (hf : ∀ x ∈ xs, x.fine) (ha : a ≤ 9223372036854775807) (w : World) (hA : RgSl w w.heap.size A xs) :
    Calls Try.prog 21 #[.slice A xs.length c, .int .i64 a, .int .i64 4, .bool write] w fun e w' => e = .returned (pairVal (mmFind xs a 4 write)) ∧ Below w.heap.size w w' := by
  have q1 : (a.tmod 4 != 0) = false := by rw [bne_eq_false_iff_eq]; exact ho
  rw [show mmFind xs a 4 write = mmSeek a 4 write xs 0 by unfold mmFind; rw [if_neg (by omega), if_neg (by omega)]]
  have HA := Lib.hid hA
  have HF := Lib.hid hf
  have HO := Lib.hid ho
  clear hA hf ho
  go_enter Try.func21, Try.ntmps21
  go_wp2_with fail
  go_loopw [10] (fun i wr => ∃ k : Nat, k ≤ xs.length ∧ i = .int .i64 k ∧ Below w.heap.size w wr ∧ Hid (mmSeek a 4 write (xs.drop k) k = mmSeek a 4 write xs 0)) (fun i _ => xs.length - (intOf i).toNat)
  case atStart => exact ⟨0, Nat.zero_le _, rfl, Below.refl _ _, Lib.hid rfl⟩
  case round =>
    obtain ⟨k, hk, rfl, hBw, HK⟩ := hrel
    by_cases hlt : k < xs.length
    · have hne : xs ≠ [] := by intro e; rw [e] at hlt; simp at hlt
      obtain ⟨b, off, rfl, hl1, hcell⟩ := HA.out hne
      obtain ⟨h0, h1, h2⟩ := hcell k hlt
      rw [← hBw.cell hl1] at h0 h1 h2
      have hxf : (xs.getD k rgNone).fine := HF.out _ (by rw [List.getD, List.getElem?_eq_getElem hlt]; exact List.getElem_mem hlt)
      have hd := mmSeek_drop a 4 write xs k hlt
      rw [HK.out] at hd
      generalize xs.getD k rgNone = x at *
      obtain ⟨xb, xl, xw⟩ := x
      obtain ⟨x1, x2, x3, x4⟩ := hxf
      simp only at h0 h1 h2 x1 x2 x3 x4
      have HBw := Lib.hid hBw
      have HD := Lib.hid hd
      clear hcell hBw hd
      by_cases p1 : xb ≤ a
      · by_cases p2 : 4 ≤ xl
        · have e1 : wrap64 (a - xb) = a - xb := by unfold wrap64; omega
          have e2 : wrap64 (xl - 4) = xl - 4 := by unfold wrap64; omega
          by_cases p3 : a - xb ≤ xl - 4
          · have hh : hasB ⟨xb, xl, xw⟩ a 4 = true := by unfold hasB; simp; omega
            rw [hh] at HD
            have HH := Lib.hid hh
            clear hh
            go_wp2_with fail
            go_quiet (fail)
            cases write
            · go_wp2_with fail
              go_ret2
              refine ⟨?_, below_drewN HBw.out _⟩
              rw [show mmSeek a 4 false xs 0 = ((k : Int), 0) from by have := HD.out; simp at this; exact this]; rfl
            · cases xw
              · go_wp2_with fail
                go_ret2
                refine ⟨?_, below_drewN HBw.out _⟩
                rw [show mmSeek a 4 true xs 0 = (0, 8) from by have := HD.out; simp at this; exact this]; rfl
              · go_wp2_with fail
                go_ret2
                refine ⟨?_, below_drewN HBw.out _⟩
                rw [show mmSeek a 4 true xs 0 = ((k : Int), 0) from by have := HD.out; simp at this; exact this]; rfl
          · have d3 : decide (a - xb ≤ xl - 4) = false := by simp; omega
            have hh : hasB ⟨xb, xl, xw⟩ a 4 = false := by unfold hasB; simp; omega
            rw [hh] at HD
            clear hh
            go_wp2_with fail
            go_quiet (fail)
            go_wp2_with fail
            go_roundw
            case rel => exact ⟨k + 1, by omega, by go_num, below_drewN HBw.out _, Lib.hid (by have := HD.out; simp at this; exact this.symm)⟩
            case measure => simp [intOf]; omega
        · have d2 : decide (4 ≤ xl) = false := by simp; omega
          have hh : hasB ⟨xb, xl, xw⟩ a 4 = false := by unfold hasB; simp; omega
          rw [hh] at HD
          clear hh
          go_wp2_with fail
          go_quiet (fail)
          go_wp2_with fail
          go_roundw
          case rel => exact ⟨k + 1, by omega, by go_num, below_drewN HBw.out _, Lib.hid (by have := HD.out; simp at this; exact this.symm)⟩
          case measure => simp [intOf]; omega
      · have d1 : decide (xb ≤ a) = false := by simp; omega
        have hh : hasB ⟨xb, xl, xw⟩ a 4 = false := by unfold hasB; simp; omega
        rw [hh] at HD
        clear hh
        go_wp2_with fail
        go_quiet (fail)
        go_wp2_with fail
        go_roundw
        case rel => exact ⟨k + 1, by omega, by go_num, below_drewN HBw.out _, Lib.hid (by have := HD.out; simp at this; exact this.symm)⟩
        case measure => simp [intOf]; omega
    · obtain rfl : k = xs.length := by omega
      have HBw := Lib.hid hBw
      clear hBw
      go_wp2_with fail
      go_ret2
      refine ⟨?_, HBw.out⟩
      rw [← HK.out, List.drop_length]; rfl
theorem ref05_Find (A : Option Addr) (c : Nat) (xs : List Rg) (a n : Int) (write : Bool) (hn : xs.length ≤ 1000000) (hf : ∀ x ∈ xs, x.fine) (ha : a ≤ 9223372036854775807) (w : World) (hA : RgSl w w.heap.size A xs) :
    Calls Try.prog 21 #[.slice A xs.length c, .int .i64 a, .int .i64 n, .bool write] w fun e w' => e = .returned (pairVal (mmFind xs a n write)) ∧ Below w.heap.size w w' := by
  by_cases h1 : n = 1
  · subst h1
    exact ref05_Find_seek1 A c xs a write (Int.tmod_one a) hn hf ha w hA
  · by_cases h4 : n = 4
    · subst h4
      by_cases ho : a.tmod 4 = 0
      · exact ref05_Find_seek4 A c xs a write ho hn hf ha w hA
      · exact (ref05_Find_odd A c xs a 4 write (.inr rfl) ho w).mono fun e w' h => ⟨h.1, by rw [← h.2]; exact Below.refl _ _⟩
    · exact (ref05_Find_arg A c xs a n write h1 h4 w).mono fun e w' h => ⟨h.1, by rw [← h.2]; exact Below.refl _ _⟩
end Go.Proofs.Ytgipelnjbpkfjaa
