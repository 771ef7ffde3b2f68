/- Contracts of Parse of image and of hauberkref06: an image's head, or the error. -/
import Derived.Test.YtgipelnjbpkfjaaBuild6
import Derived.Test.YtgipelnjbpkfjaaAt
namespace Go.Proofs.Ytgipelnjbpkfjaa
open Go.RowKit

theorem image_Parse_short (s : ByteArray) (hs : s.size < 64) (w : World) : Calls Try.prog 26 #[.string s] w fun e w' =>
    e = .returned (.tuple #[hdVal (imgParse s).1, .int .i64 (imgParse s).2]) ∧ Below w.heap.size w w' := by
  rw [show imgParse s = (hd0, 3) by unfold imgParse; rw [if_pos hs]]
  go_enter Try.func26, Try.ntmps26
  go_wp2_with fail
  refine bodyPost_ret (v := .tuple #[.agg #[.int .i64 0, .int .i64 0, .int .i64 0, .int .i64 0, .int .i64 0, .int .i64 0], .int .i64 3]) (by simp [results, Try.results26, go_sem]) rfl ⟨rfl, ?_⟩
  exact (Below.refl _ _).alloc (Nat.le_refl _) _
theorem ref06_Parse_short (s : ByteArray) (hs : s.size < 64) (w : World) : Calls Try.prog 27 #[.string s] w fun e w' =>
    e = .returned (.tuple #[hdVal (imgParse s).1, .int .i64 (imgParse s).2]) ∧ Below w.heap.size w w' := by
  rw [show imgParse s = (hd0, 3) by unfold imgParse; rw [if_pos hs]]
  go_enter Try.func27, Try.ntmps27
  go_wp2_with fail
  refine bodyPost_ret (v := .tuple #[.agg #[.int .i64 0, .int .i64 0, .int .i64 0, .int .i64 0, .int .i64 0, .int .i64 0], .int .i64 3]) (by simp [results, Try.results27, go_sem]) rfl ⟨rfl, ?_⟩
  exact (Below.refl _ _).alloc (Nat.le_refl _) _
set_option maxHeartbeats 1000000 in
theorem image_Parse_bad (s : ByteArray) (hs : 64 ≤ s.size) (hc : imgCheck (headOf s) (s.size : Nat) ≠ 0) (w : World) : Calls Try.prog 26 #[.string s] w fun e w' =>
    e = .returned (.tuple #[hdVal (imgParse s).1, .int .i64 (imgParse s).2]) ∧ Below w.heap.size w w' := by
  rw [show imgParse s = (hd0, 4) by rw [parse_prog s hs, if_pos hc]]
  have hq : (imgCheck (headOf s) (s.size : Nat) != 0) = true := by rw [bne_iff_ne]; exact hc
  clear hc
  have hat := fun (k : Int) h0 h1 w => image_at s hs k h0 h1 w
  have a1 := hat 1 (by omega) (by omega)
  have a3 := hat 3 (by omega) (by omega)
  have a7 := hat 7 (by omega) (by omega)
  have a8 := hat 8 (by omega) (by omega)
  have a9 := hat 9 (by omega) (by omega)
  have a10 := hat 10 (by omega) (by omega)
  have b1 := lWord_lt s.data.toList 1
  have b3 := lWord_lt s.data.toList 3
  unfold headOf at *
  generalize lWord s.data.toList = G at *
  obtain ⟨b1, b1'⟩ := b1
  obtain ⟨b3, b3'⟩ := b3
  have HAT := Lib.hid hat
  clear hat
  have A1 := Lib.hid a1
  clear a1
  have A3 := Lib.hid a3
  clear a3
  have A7 := Lib.hid a7
  clear a7
  have A8 := Lib.hid a8
  clear a8
  have A9 := Lib.hid a9
  clear a9
  have A10 := Lib.hid a10
  clear a10
  go_enter Try.func26, Try.ntmps26
  go_wp2_with (first
    | (go_at_call 47; ((with_reducible refine (A1.out _).mono ?_); rintro e w' ⟨rfl, rfl⟩))
    | (go_at_call 47; ((with_reducible refine (A3.out _).mono ?_); rintro e w' ⟨rfl, rfl⟩))
    | (go_at_call 47; ((with_reducible refine (A7.out _).mono ?_); rintro e w' ⟨rfl, rfl⟩))
    | (go_at_call 47; ((with_reducible refine (A8.out _).mono ?_); rintro e w' ⟨rfl, rfl⟩))
    | (go_at_call 47; ((with_reducible refine (A9.out _).mono ?_); rintro e w' ⟨rfl, rfl⟩))
    | (go_at_call 47; ((with_reducible refine (A10.out _).mono ?_); rintro e w' ⟨rfl, rfl⟩)))
  refine (image_check ⟨G 1 - 1, G 3 - 1, G 7, G 8, G 9, G 10⟩ _ _).mono ?_
  rintro e w2 ⟨rfl, hb⟩
  have hx := (hb.block w.heap.size (by simp; omega)).trans ((Below.heap_alloc _ _ w.heap.size (by simp)).trans (heap_alloc_new w _))
  have hy := (hb.block (w.heap.size + 1) (by simp)).trans (Go.heap_alloc2_new w _ _)
  have HB := Lib.hid (bch (((Below.refl _ _).alloc (Nat.le_refl _) _).alloc (by simp) _) hb)
  have x0 := cell_of_blk hx 0
  have x1 := cell_of_blk hx 1
  have x2 := cell_of_blk hx 2
  have x3 := cell_of_blk hx 3
  have x4 := cell_of_blk hx 4
  have x5 := cell_of_blk hx 5
  simp only [List.getElem?_toArray, List.getElem?_cons_zero, List.getElem?_cons_succ] at x0 x1 x2 x3 x4 x5
  obtain ⟨x0, y0⟩ := x0
  obtain ⟨x1, y1⟩ := x1
  obtain ⟨x2, y2⟩ := x2
  obtain ⟨x3, y3⟩ := x3
  obtain ⟨x4, y4⟩ := x4
  obtain ⟨x5, y5⟩ := x5
  clear hb hx hy
  go_wp2_with fail
  refine bodyPost_ret (v := .tuple #[.agg #[.int .i64 0, .int .i64 0, .int .i64 0, .int .i64 0, .int .i64 0, .int .i64 0], .int .i64 4]) (by simp [results, Try.results26, go_sem, x0, x1, x2, x3, x4, x5]) rfl ⟨rfl, ?_⟩
  exact ((((((((((((HB.out).setCell (Nat.le_refl _) _)).setCell (Nat.le_refl _) _)).setCell (Nat.le_refl _) _)).setCell (Nat.le_refl _) _)).setCell (Nat.le_refl _) _)).setCell (Nat.le_refl _) _)
set_option maxHeartbeats 2000000 in
theorem image_Parse_fits (s : ByteArray) (hs : 64 ≤ s.size) (hc : imgCheck (headOf s) (s.size : Nat) = 0) (w : World) : Calls Try.prog 26 #[.string s] w fun e w' =>
    e = .returned (.tuple #[hdVal (imgParse s).1, .int .i64 (imgParse s).2]) ∧ Below w.heap.size w w' := by
  have hp : imgParse s = if frontOk s then (headOf s, 0) else (hd0, 4) := by rw [parse_prog s hs, if_neg (by simpa using hc)]
  have hfr : frontOk s = true ↔ ∀ k, k < 16 → lWord s.data.toList k = (frontWords (headOf s)).getD k 0 := frontOk_iff s
  have hlen : (frontWords (headOf s)).length = 16 := rfl
  have hF := image_front (headOf s)
  have hA : ∀ k, k < 16 → (ints (frontWords (headOf s))).toArray[k]? = some (.int .i64 ((frontWords (headOf s)).getD k 0)) := by
    intro k hk
    have hlt : k < (frontWords (headOf s)).length := by rw [hlen]; exact hk
    simp only [ints, List.getElem?_toArray, List.getElem?_map, List.getElem?_eq_getElem hlt, Option.map_some, List.getD, Option.getD_some]
  generalize frontWords (headOf s) = F at *
  generalize (ints F).toArray = A at *
  generalize imgParse s = V at *
  generalize frontOk s = ok at *
  have hat := fun (k : Int) h0 h1 w => image_at s hs k h0 h1 w
  have a1 := hat 1 (by omega) (by omega)
  have a3 := hat 3 (by omega) (by omega)
  have a7 := hat 7 (by omega) (by omega)
  have a8 := hat 8 (by omega) (by omega)
  have a9 := hat 9 (by omega) (by omega)
  have a10 := hat 10 (by omega) (by omega)
  have b1 := lWord_lt s.data.toList 1
  have b3 := lWord_lt s.data.toList 3
  unfold headOf at *
  generalize lWord s.data.toList = G at *
  obtain ⟨b1, b1'⟩ := b1
  obtain ⟨b3, b3'⟩ := b3
  have HAT := Lib.hid hat
  clear hat
  have A1 := Lib.hid a1
  clear a1
  have A3 := Lib.hid a3
  clear a3
  have A7 := Lib.hid a7
  clear a7
  have A8 := Lib.hid a8
  clear a8
  have A9 := Lib.hid a9
  clear a9
  have A10 := Lib.hid a10
  clear a10
  have HA := Lib.hid hA
  have HF := Lib.hid hF
  have HP := Lib.hid hp
  have HFR := Lib.hid hfr
  have HC := Lib.hid hc
  clear hA hF hp hfr hc hlen
  go_enter Try.func26, Try.ntmps26
  go_wp2_with (first
    | (go_at_call 47; ((with_reducible refine (A1.out _).mono ?_); rintro e w' ⟨rfl, rfl⟩))
    | (go_at_call 47; ((with_reducible refine (A3.out _).mono ?_); rintro e w' ⟨rfl, rfl⟩))
    | (go_at_call 47; ((with_reducible refine (A7.out _).mono ?_); rintro e w' ⟨rfl, rfl⟩))
    | (go_at_call 47; ((with_reducible refine (A8.out _).mono ?_); rintro e w' ⟨rfl, rfl⟩))
    | (go_at_call 47; ((with_reducible refine (A9.out _).mono ?_); rintro e w' ⟨rfl, rfl⟩))
    | (go_at_call 47; ((with_reducible refine (A10.out _).mono ?_); rintro e w' ⟨rfl, rfl⟩)))
  refine (image_check ⟨G 1 - 1, G 3 - 1, G 7, G 8, G 9, G 10⟩ _ _).mono ?_
  rintro e w2 ⟨rfl, hb⟩
  rw [show imgCheck ⟨G 1 - 1, G 3 - 1, G 7, G 8, G 9, G 10⟩ (s.size : Int) = 0 from HC.out]
  have hx := (hb.block w.heap.size (by simp; omega)).trans ((Below.heap_alloc _ _ w.heap.size (by simp)).trans (heap_alloc_new w _))
  have hy := (hb.block (w.heap.size + 1) (by simp)).trans (Go.heap_alloc2_new w _ _)
  have HB := Lib.hid (bch (((Below.refl _ _).alloc (Nat.le_refl _) _).alloc (by simp) _) hb)
  have z0 := (cell_of_blk hy 0).1
  have z1 := (cell_of_blk hy 1).1
  have z2 := (cell_of_blk hy 2).1
  have z3 := (cell_of_blk hy 3).1
  have z4 := (cell_of_blk hy 4).1
  have z5 := (cell_of_blk hy 5).1
  simp only [List.getElem?_toArray, List.getElem?_cons_zero, List.getElem?_cons_succ] at z0 z1 z2 z3 z4 z5
  have HX := Lib.hid hx
  have HY := Lib.hid hy
  have hl : w.heap.size + 1 < w2.heap.size := lt_of_blk hy
  clear hb hx hy
  go_wp2_with fail
  refine (HF.out _).mono ?_
  rintro e w4 ⟨rfl, hb4⟩
  have hx := (hb4.block _ (by omega)).trans HX.out
  have hy := (hb4.block _ (by omega)).trans HY.out
  have HB2 := Lib.hid (bch HB.out hb4)
  clear z0 z1 z2 z3 z4 z5 hb4
  have x0 := cell_of_blk hx 0
  have x1 := cell_of_blk hx 1
  have x2 := cell_of_blk hx 2
  have x3 := cell_of_blk hx 3
  have x4 := cell_of_blk hx 4
  have x5 := cell_of_blk hx 5
  simp only [List.getElem?_toArray, List.getElem?_cons_zero, List.getElem?_cons_succ] at x0 x1 x2 x3 x4 x5
  obtain ⟨x0, y0⟩ := x0
  obtain ⟨x1, y1⟩ := x1
  obtain ⟨x2, y2⟩ := x2
  obtain ⟨x3, y3⟩ := x3
  obtain ⟨x4, y4⟩ := x4
  obtain ⟨x5, y5⟩ := x5
  have z0 := (cell_of_blk hy 0).1
  have z1 := (cell_of_blk hy 1).1
  have z2 := (cell_of_blk hy 2).1
  have z3 := (cell_of_blk hy 3).1
  have z4 := (cell_of_blk hy 4).1
  have z5 := (cell_of_blk hy 5).1
  simp only [List.getElem?_toArray, List.getElem?_cons_zero, List.getElem?_cons_succ] at z0 z1 z2 z3 z4 z5
  clear hx hy
  go_wp2_with fail
  go_loop [35] (fun j => ∃ k : Nat, k ≤ 16 ∧ j = .int .i64 k ∧ Hid (∀ i, i < k → G i = F.getD i 0)) (fun j => 16 - (intOf j).toNat)
  case atStart => exact ⟨0, by omega, rfl, Lib.hid (fun i hi => by omega)⟩
  case round =>
    obtain ⟨k, hk, rfl, HK⟩ := hrel
    by_cases h16 : k < 16
    · have hix := run_index_ints A k h16 _ (HA.out k h16)
      by_cases hg : G k = F.getD k 0
      · have hn := fun i (hi : i < k + 1) => (show G i = F.getD i 0 from (Nat.lt_or_ge i k).elim (fun h => HK.out i h) (fun h => (show i = k by omega) ▸ hg))
        have HN := Lib.hid hn
        have hq : (G k != F.getD k 0) = false := by rw [bne_eq_false_iff_eq]; exact hg
        clear hg hn
        generalize F.getD k 0 = x at hix hq
        go_wp2_with (go_at_call 47; refine (HAT.out _ (by omega) (by omega) _).mono ?_; rintro e w' ⟨rfl, rfl⟩)
        go_round
        case rel => exact ⟨k + 1, by omega, by go_num, HN⟩
        case measure => simp [intOf]; omega
      · have hq : (G k != F.getD k 0) = true := by rw [bne_iff_ne]; exact hg
        have hv : V = (hd0, 4) := by
          rw [HP.out]
          cases ok
          · rfl
          · exact absurd (HFR.out.1 rfl k h16) hg
        have HV := Lib.hid hv
        clear hg hv
        generalize F.getD k 0 = x at hix hq
        go_wp2_with (go_at_call 47; refine (HAT.out _ (by omega) (by omega) _).mono ?_; rintro e w' ⟨rfl, rfl⟩)
        refine bodyPost_ret (v := .tuple #[.agg #[.int .i64 0, .int .i64 0, .int .i64 0, .int .i64 0, .int .i64 0, .int .i64 0], .int .i64 4]) (by simp [results, Try.results26, go_sem, x0, x1, x2, x3, x4, x5]) rfl ⟨by rw [HV.out]; rfl, ?_⟩
        exact ((((((((((((HB2.out).setCell (Nat.le_refl _) _)).setCell (Nat.le_refl _) _)).setCell (Nat.le_refl _) _)).setCell (Nat.le_refl _) _)).setCell (Nat.le_refl _) _)).setCell (Nat.le_refl _) _)
    · obtain rfl : k = 16 := by omega
      have hv : V = (⟨G 1 - 1, G 3 - 1, G 7, G 8, G 9, G 10⟩, 0) := by
        rw [HP.out, HFR.out.2 HK.out]; rfl
      have HV := Lib.hid hv
      clear hv
      go_wp2_with fail
      refine bodyPost_ret (v := .tuple #[.agg #[.int .i64 (G 1 - 1), .int .i64 (G 3 - 1), .int .i64 (G 7), .int .i64 (G 8), .int .i64 (G 9), .int .i64 (G 10)], .int .i64 0]) (by simp [results, Try.results26, go_sem, x0, x1, x2, x3, x4, x5]) rfl ⟨by rw [HV.out]; rfl, ?_⟩
      exact ((((((((((((HB2.out).setCell (Nat.le_refl _) _)).setCell (Nat.le_refl _) _)).setCell (Nat.le_refl _) _)).setCell (Nat.le_refl _) _)).setCell (Nat.le_refl _) _)).setCell (Nat.le_refl _) _)
theorem image_Parse (s : ByteArray) (w : World) : Calls Try.prog 26 #[.string s] w fun e w' =>
    e = .returned (.tuple #[hdVal (imgParse s).1, .int .i64 (imgParse s).2]) ∧ Below w.heap.size w w' := by
  by_cases hs : s.size < 64
  · exact image_Parse_short s hs w
  · by_cases hc : imgCheck (headOf s) (s.size : Nat) = 0
    · exact image_Parse_fits s (by omega) hc w
    · exact image_Parse_bad s (by omega) hc w
theorem bytes_inj {a b : ByteArray} (h : a.toList = b.toList) : a = b := by
  apply ByteArray.ext
  apply Array.toList_inj.1
  rw [ByteArray.toList_eq, ByteArray.toList_eq] at h
  exact h
theorem two_blk {w w2 : World} {m : Nat} {R H : Obj} (hb : Below (((w.alloc R).drewN m).alloc H).drew.heap.size (((w.alloc R).drewN m).alloc H).drew w2) :
    w2.heap[w.heap.size]? = some R ∧ w2.heap[w.heap.size + 1]? = some H ∧ Below w.heap.size w w2 := by
  have h0 : Below w.heap.size w (((w.alloc R).drewN m).alloc H).drew := by
    have h1 : Below w.heap.size w (w.alloc R) := (Below.refl _ _).alloc (Nat.le_refl _) _
    have h2 : Below w.heap.size w ((w.alloc R).drewN m) := ⟨h1.os, h1.tape, h1.output, h1.size, h1.block⟩
    exact (h2.alloc (by simp) H).drew
  have hs : (((w.alloc R).drewN m).alloc H).drew.heap.size = w.heap.size + 2 := by simp
  refine ⟨(hb.block _ (by omega)).trans ?_, (hb.block _ (by omega)).trans ?_, bch h0 hb⟩
  · exact (Below.heap_alloc ((w.alloc R).drewN m) H w.heap.size (by simp)).trans (heap_alloc_new w R)
  · have := heap_alloc_new ((w.alloc R).drewN m) H
    rw [show ((w.alloc R).drewN m).heap.size = w.heap.size + 1 by simp] at this
    exact this
theorem new_cell {w : World} {m : Nat} {R : Obj} {cs : Array Value} {t : TypeId} (i : Nat) (v : Value) (h : cs[i]? = some v) : (((w.alloc R).drewN m).alloc (.cells cs t)).drew.cell? ⟨w.heap.size + 1, i, none⟩ = some v := by
  have h2 := heap_alloc_new ((w.alloc R).drewN m) (.cells cs t)
  rw [show ((w.alloc R).drewN m).heap.size = w.heap.size + 1 by simp] at h2
  have h3 := (cell_of_blk h2 i).1
  exact h3.trans h
set_option maxHeartbeats 2000000 in
theorem ref06_Parse_long (s : ByteArray) (hs : 64 ≤ s.size) (hm : s.size ≤ 1000000) (w : World) : Calls Try.prog 27 #[.string s] w fun e w' =>
    e = .returned (.tuple #[hdVal (imgParse s).1, .int .i64 (imgParse s).2]) ∧ Below w.heap.size w w' := by
  have hp : imgParse s = if (imgBuild (headOf s) (s.extract 64 s.size)).2 ≠ 0 ∨ (imgBuild (headOf s) (s.extract 64 s.size)).1 ≠ s then (hd0, 4) else (headOf s, 0) := by
    unfold imgParse; rw [if_neg (by omega)]
  have hes : (s.extract 64 s.size).size ≤ 1000000 := by rw [ByteArray.size_extract]; omega
  have b9 := lWord_lt s.data.toList 9
  have hbuild := ref06_Build (headOf s) (by unfold headOf; simp only; omega) (s.extract 64 s.size) hes
  generalize imgBuild (headOf s) (s.extract 64 s.size) = U at *
  generalize imgParse s = V at *
  have hat := fun (k : Int) h0 h1 w => ref06_at s hs k h0 h1 w
  have a1 := hat 1 (by omega) (by omega)
  have a3 := hat 3 (by omega) (by omega)
  have a7 := hat 7 (by omega) (by omega)
  have a8 := hat 8 (by omega) (by omega)
  have a9 := hat 9 (by omega) (by omega)
  have a10 := hat 10 (by omega) (by omega)
  have b1 := lWord_lt s.data.toList 1
  have b3 := lWord_lt s.data.toList 3
  unfold headOf at *
  generalize lWord s.data.toList = G at *
  obtain ⟨b1, b1'⟩ := b1
  obtain ⟨b3, b3'⟩ := b3
  have HAT := Lib.hid hat
  clear hat
  have A1 := Lib.hid a1
  clear a1
  have A3 := Lib.hid a3
  clear a3
  have A7 := Lib.hid a7
  clear a7
  have A8 := Lib.hid a8
  clear a8
  have A9 := Lib.hid a9
  clear a9
  have A10 := Lib.hid a10
  clear a10
  obtain ⟨u, n⟩ := U
  simp only at hp hbuild
  have HP := Lib.hid hp
  have HBU := Lib.hid hbuild
  have q64 : (64 : Int) ≤ (s.size : Int) := by omega
  clear hp hbuild b9 hes hm
  go_enter Try.func27, Try.ntmps27
  go_wp2_with (first
    | (go_at_call 48; ((with_reducible refine (A1.out _).mono ?_); rintro e w' ⟨rfl, m, rfl⟩))
    | (go_at_call 48; ((with_reducible refine (A3.out _).mono ?_); rintro e w' ⟨rfl, m, rfl⟩))
    | (go_at_call 48; ((with_reducible refine (A7.out _).mono ?_); rintro e w' ⟨rfl, m, rfl⟩))
    | (go_at_call 48; ((with_reducible refine (A8.out _).mono ?_); rintro e w' ⟨rfl, m, rfl⟩))
    | (go_at_call 48; ((with_reducible refine (A9.out _).mono ?_); rintro e w' ⟨rfl, m, rfl⟩))
    | (go_at_call 48; ((with_reducible refine (A10.out _).mono ?_); rintro e w' ⟨rfl, m, rfl⟩)))
  go_region_held3 (fun w' => w'.cell? ⟨w.heap.size + 1, 0, none⟩ = some (.int .i64 (G 1 - 1)) ∧ w'.cell? ⟨w.heap.size + 1, 1, none⟩ = some (.int .i64 (G 3 - 1)) ∧ w'.cell? ⟨w.heap.size + 1, 2, none⟩ = some (.int .i64 (G 7)) ∧ w'.cell? ⟨w.heap.size + 1, 3, none⟩ = some (.int .i64 (G 8)) ∧ w'.cell? ⟨w.heap.size + 1, 4, none⟩ = some (.int .i64 (G 9)) ∧ w'.cell? ⟨w.heap.size + 1, 5, none⟩ = some (.int .i64 (G 10))) (first | exact ⟨new_cell 0 _ rfl, new_cell 1 _ rfl, new_cell 2 _ rfl, new_cell 3 _ rfl, new_cell 4 _ rfl, new_cell 5 _ rfl⟩ | exact ⟨(cell_of_blk hy 0).1, (cell_of_blk hy 1).1, (cell_of_blk hy 2).1, (cell_of_blk hy 3).1, (cell_of_blk hy 4).1, (cell_of_blk hy 5).1⟩)
    ((go_at_call 25; refine (HBU.out _).mono ?_; rintro e w2 ⟨rfl, hb⟩; obtain ⟨hx, hy, hb0⟩ := two_blk hb; clear hb))
  have x0 := cell_of_blk hx 0
  have x1 := cell_of_blk hx 1
  have x2 := cell_of_blk hx 2
  have x3 := cell_of_blk hx 3
  have x4 := cell_of_blk hx 4
  have x5 := cell_of_blk hx 5
  simp only [List.getElem?_toArray, List.getElem?_cons_zero, List.getElem?_cons_succ] at x0 x1 x2 x3 x4 x5
  obtain ⟨x0, y0⟩ := x0
  obtain ⟨x1, y1⟩ := x1
  obtain ⟨x2, y2⟩ := x2
  obtain ⟨x3, y3⟩ := x3
  obtain ⟨x4, y4⟩ := x4
  obtain ⟨x5, y5⟩ := x5
  have z0 := (cell_of_blk hy 0).1
  have z1 := (cell_of_blk hy 1).1
  have z2 := (cell_of_blk hy 2).1
  have z3 := (cell_of_blk hy 3).1
  have z4 := (cell_of_blk hy 4).1
  have z5 := (cell_of_blk hy 5).1
  simp only [List.getElem?_toArray, List.getElem?_cons_zero, List.getElem?_cons_succ] at z0 z1 z2 z3 z4 z5
  clear hx hy
  have HB2 := Lib.hid hb0
  clear hb0
  by_cases hn : n = 0
  · by_cases hu : u = s
    · have hv : V = (⟨G 1 - 1, G 3 - 1, G 7, G 8, G 9, G 10⟩, 0) := by rw [HP.out, if_neg (by simp [hn, hu])]
      have HV := Lib.hid hv
      subst hn
      subst hu
      clear hv
      go_wp2_with fail
      refine bodyPost_ret (v := .tuple #[.agg #[.int .i64 (G 1 - 1), .int .i64 (G 3 - 1), .int .i64 (G 7), .int .i64 (G 8), .int .i64 (G 9), .int .i64 (G 10)], .int .i64 0]) (by simp [results, Try.results27, go_sem, x0, x1, x2, x3, x4, x5]) rfl ⟨by rw [HV.out]; rfl, ?_⟩
      exact ((((((((((((HB2.out).setCell (Nat.le_refl _) _)).setCell (Nat.le_refl _) _)).setCell (Nat.le_refl _) _)).setCell (Nat.le_refl _) _)).setCell (Nat.le_refl _) _)).setCell (Nat.le_refl _) _)
    · have hv : V = (hd0, 4) := by rw [HP.out, if_pos (Or.inr hu)]
      have HV := Lib.hid hv
      have hq : (u.toList == s.toList) = false := by rw [beq_eq_false_iff_ne]; intro e; exact hu (bytes_inj e)
      subst hn
      clear hv hu
      go_wp2_with fail
      refine bodyPost_ret (v := .tuple #[.agg #[.int .i64 0, .int .i64 0, .int .i64 0, .int .i64 0, .int .i64 0, .int .i64 0], .int .i64 4]) (by simp [results, Try.results27, go_sem, x0, x1, x2, x3, x4, x5]) rfl ⟨by rw [HV.out]; rfl, ?_⟩
      exact ((((((((((((HB2.out).setCell (Nat.le_refl _) _)).setCell (Nat.le_refl _) _)).setCell (Nat.le_refl _) _)).setCell (Nat.le_refl _) _)).setCell (Nat.le_refl _) _)).setCell (Nat.le_refl _) _)
  · have hv : V = (hd0, 4) := by rw [HP.out, if_pos (Or.inl hn)]
    have HV := Lib.hid hv
    have hq : (n != 0) = true := by rw [bne_iff_ne]; exact hn
    clear hv hn
    go_wp2_with fail
    refine bodyPost_ret (v := .tuple #[.agg #[.int .i64 0, .int .i64 0, .int .i64 0, .int .i64 0, .int .i64 0, .int .i64 0], .int .i64 4]) (by simp [results, Try.results27, go_sem, x0, x1, x2, x3, x4, x5]) rfl ⟨by rw [HV.out]; rfl, ?_⟩
    exact ((((((((((((HB2.out).setCell (Nat.le_refl _) _)).setCell (Nat.le_refl _) _)).setCell (Nat.le_refl _) _)).setCell (Nat.le_refl _) _)).setCell (Nat.le_refl _) _)).setCell (Nat.le_refl _) _)
theorem ref06_Parse (s : ByteArray) (hm : s.size ≤ 1000000) (w : World) : Calls Try.prog 27 #[.string s] w fun e w' =>
    e = .returned (.tuple #[hdVal (imgParse s).1, .int .i64 (imgParse s).2]) ∧ Below w.heap.size w w' := by
  by_cases hs : s.size < 64
  · exact ref06_Parse_short s hs w
  · exact ref06_Parse_long s (by omega) hm w
end Go.Proofs.Ytgipelnjbpkfjaa
