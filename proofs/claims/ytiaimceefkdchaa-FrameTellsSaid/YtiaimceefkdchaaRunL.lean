/- Contracts of hauberklaw17.small and hauberklaw17.lives. No condition. -/
import Derived.Test.YtiaimceefkdchaaRunK
namespace Go.Proofs.Ytiaimceefkdchaa
open Go.RowKit
set_option linter.unusedVariables false
theorem alloc_last (w : World) (n : Nat) (h : w.heap.size = n) (o : Obj) : (w.alloc o).heap[n]? = some o := by subst h; exact heap_alloc_new w o
theorem alloc_old {w : World} {n : Nat} {x : Obj} (h : w.heap[n]? = some x) (o : Obj) : (w.alloc o).heap[n]? = some x := ((bnew w o).block n (lt_of_blk h)).trans h
theorem alloc_size (w : World) (o : Obj) {n : Nat} (h : w.heap.size = n) : (w.alloc o).heap.size = n + 1 := by subst h; simp
theorem alloc4 (w : World) (a b c d : Obj) :
    ((((w.alloc a).alloc b).alloc c).alloc d).heap[w.heap.size]? = some a ∧ ((((w.alloc a).alloc b).alloc c).alloc d).heap[w.heap.size + 1]? = some b ∧ ((((w.alloc a).alloc b).alloc c).alloc d).heap[w.heap.size + 1 + 1]? = some c ∧ ((((w.alloc a).alloc b).alloc c).alloc d).heap[w.heap.size + 1 + 1 + 1]? = some d ∧
    ((((w.alloc a).alloc b).alloc c).alloc d).heap.size = w.heap.size + 1 + 1 + 1 + 1 ∧ Below w.heap.size w ((((w.alloc a).alloc b).alloc c).alloc d) := by
  have h1 := alloc_size w a rfl
  have h2 := alloc_size _ b h1
  have h3 := alloc_size _ c h2
  have h4 := alloc_size _ d h3
  exact ⟨alloc_old (alloc_old (alloc_old (alloc_last _ _ rfl a) b) c) d, alloc_old (alloc_old (alloc_last _ _ h1 b) c) d, alloc_old (alloc_last _ _ h2 c) d, alloc_last _ _ h3 d, h4, bal (bal (bal (bnew w a) b) c) d⟩
def SmallPost (w : World) (e : Ending) (w' : World) : Prop := ∃ av bv, e = .returned (irVal smallIr av bv) ∧ IrRep w' w'.heap.size smallIr av bv ∧ Below w.heap.size w w'
set_option maxRecDepth 100000 in
set_option maxHeartbeats 4000000 in
theorem law17_small (w : World) : Calls Try.prog 72 #[] w (SmallPost w) := by
  go_enter Try.func72, Try.ntmps72
  go_wp2_with fail
  obtain ⟨h0, h1, h2, h3, h4, h5⟩ := alloc4 w (.cells #[.int .i64 2, .slice (some ⟨w.heap.size + 1, 0, none⟩) 1 1, .slice (some ⟨w.heap.size + 1 + 1 + 1, 0, none⟩) 1 1, .int .i64 0, .int .i64 4] 25)
    (.cells #[.int .i64 4, .int .i64 1, .int .i64 2, .int .i64 0] 36) (.cells #[.int .i64 1, .int .i64 0, .int .i64 0, .int .i64 0, .int .i64 0, .int .i64 7, .int .i64 19, .int .i64 0, .int .i64 1, .int .i64 0, .int .i64 0, .int .i64 0] 58)
    (.cells #[.slice (some ⟨w.heap.size + 1 + 1, 0, none⟩) 2 2, .int .i64 3, .int .i64 0, .int .i64 0, .int .i64 0] 55)
  generalize (((w.alloc (.cells #[.int .i64 2, .slice (some ⟨w.heap.size + 1, 0, none⟩) 1 1, .slice (some ⟨w.heap.size + 1 + 1 + 1, 0, none⟩) 1 1, .int .i64 0, .int .i64 4] 25)).alloc
    (.cells #[.int .i64 4, .int .i64 1, .int .i64 2, .int .i64 0] 36)).alloc (.cells #[.int .i64 1, .int .i64 0, .int .i64 0, .int .i64 0, .int .i64 0, .int .i64 7, .int .i64 19, .int .i64 0, .int .i64 1, .int .i64 0, .int .i64 0, .int .i64 0] 58)).alloc
    (.cells #[.slice (some ⟨w.heap.size + 1 + 1, 0, none⟩) 2 2, .int .i64 3, .int .i64 0, .int .i64 0, .int .i64 0] 55) = W at *
  have c0 : W.cell? ⟨w.heap.size, 0, none⟩ = some (.int .i64 2) := (cell_of_blk h0 0).1
  have c1 : W.cell? ⟨w.heap.size, 1, none⟩ = some (.slice (some ⟨w.heap.size + 1, 0, none⟩) 1 1) := (cell_of_blk h0 1).1
  have c2 : W.cell? ⟨w.heap.size, 2, none⟩ = some (.slice (some ⟨w.heap.size + 1 + 1 + 1, 0, none⟩) 1 1) := (cell_of_blk h0 2).1
  have c3 : W.cell? ⟨w.heap.size, 3, none⟩ = some (.int .i64 0) := (cell_of_blk h0 3).1
  have c4 : W.cell? ⟨w.heap.size, 4, none⟩ = some (.int .i64 4) := (cell_of_blk h0 4).1
  refine bodyPost_ret (v := irVal smallIr (.slice (some ⟨w.heap.size + 1, 0, none⟩) 1 1) (.slice (some ⟨w.heap.size + 1 + 1 + 1, 0, none⟩) 1 1)) (by simp [results, Try.results72, go_sem, c0, c1, c2, c3, c4]; try rfl) rfl ?_
  refine ⟨_, _, rfl, ⟨?_, ?_⟩, h5⟩
  · exact slRep_one (E := arrEnc) (es := arrCells ⟨4, 1, 2, 0⟩) h1 (lt_of_blk h1) rfl
  · refine slRep_one (E := blkEnc) (es := .slice (some ⟨w.heap.size + 1 + 1, 0, none⟩) 2 2 :: trmCells ⟨3, 0, 0, 0⟩) h3 (lt_of_blk h3) ⟨_, rfl, ?_⟩
    exact slRep_two (E := opEnc) (es := opCells ⟨1, 0, 0, 0, 0, 7⟩) (fs := opCells ⟨19, 0, 1, 0, 0, 0⟩) h2 (lt_of_blk h2) rfl rfl
set_option maxRecDepth 100000 in
set_option maxHeartbeats 4000000 in
theorem law17_lives (w : World) : Calls Try.prog 42 #[] w fun e w' => e = .returned (.bool true) ∧ Below w.heap.size w w' := by
  have HSM := Lib.hid (fun W => law17_small W)
  have HRN := Lib.hid (fun av bv b W h => ir_Run smallIr av bv small_fine bE (by decide) b W h)
  have HCK := Lib.hid (fun av bv W h => ir_Check smallIr av bv small_fine W h)
  rw [small_err] at HCK
  have hbe : bE = ⟨#[]⟩ := rfl
  unfold irVal at HCK HRN
  unfold RunPost at HRN
  have HR3 := Lib.hid (fun av bv W h => HRN.out av bv 3 W h)
  have HR2 := Lib.hid (fun av bv W h => HRN.out av bv 2 W h)
  simp only [small_3, small_2] at HR3 HR2
  rw [hbe] at HR3 HR2
  clear HRN hbe
  go_enter Try.func42, Try.ntmps42
  go_wp2_with fail
  refine (HSM.out _).mono ?_
  rintro e w2 ⟨av, bv, rfl, hI2, hB2⟩
  unfold irVal
  have HI2 := Lib.hid hI2
  have HB2 := Lib.hid hB2
  clear hI2 hB2
  go_wp2_with fail
  refine (HR3.out _ _ _ HI2.out).mono ?_
  rintro e w3 ⟨rfl, hB3⟩
  have HB3 := Lib.hid (bch HB2.out hB3)
  clear hB3
  go_wp2_with fail
  refine (HSM.out _).mono ?_
  rintro e w4 ⟨av4, bv4, rfl, hI4, hB4⟩
  unfold irVal
  have HI4 := Lib.hid hI4
  have HB4 := Lib.hid (bch HB3.out hB4)
  clear hI4 hB4
  go_wp2_with fail
  refine (HR2.out _ _ _ HI4.out).mono ?_
  rintro e w5 ⟨rfl, hB5⟩
  have HB5 := Lib.hid (bch HB4.out hB5)
  clear hB5
  go_wp2_with fail
  refine (HSM.out _).mono ?_
  rintro e w6 ⟨av6, bv6, rfl, hI6, hB6⟩
  unfold irVal
  have HI6 := Lib.hid hI6
  have HB6 := Lib.hid (bch HB5.out hB6)
  clear hI6 hB6
  go_wp2_with fail
  refine (HCK.out _ _ _ HI6.out).mono ?_
  rintro e w7 ⟨rfl, hB7⟩
  have HB7 := Lib.hid (bch HB6.out hB7)
  clear hB7
  go_wp2_with fail
  go_ret
  exact ⟨rfl, HB7.out⟩
theorem irRun_bad {p : Ir} (he : irErr p ≠ 0) (i : ByteArray) (b : Int) : irRun p i b = (bE, irErr p) := by unfold irRun; rw [if_pos he]
theorem irRun_size {p : Ir} (he : irErr p = 0) {i : ByteArray} (h : (i.size : Int) ≠ p.inp) (b : Int) : irRun p i b = (bE, 2) := by unfold irRun; rw [if_neg (by simpa using he), if_pos (Or.inl h)]
theorem irRun_go {p : Ir} (he : irErr p = 0) {i : ByteArray} (h : (i.size : Int) = p.inp) {b : Int} (h0 : 0 ≤ b) (h1 : b ≤ 67108864) : irRun p i b = runP p b.toNat 0 0 (startP p i) := by
  unfold irRun
  rw [if_neg (by simpa using he), if_neg (fun h2 => h2.elim (fun h3 => h3 h) (fun h3 => h3 ⟨h0, h1⟩))]
theorem irErr_vals (p : Ir) : irErr p = 0 ∨ irErr p = 2 ∨ irErr p = 18 := by
  unfold irErr
  split
  · exact Or.inr (Or.inr rfl)
  · split
    · exact Or.inl rfl
    · exact Or.inr (Or.inl rfl)
end Go.Proofs.Ytiaimceefkdchaa
