/- Contract of hauberkref26.Of. No condition but those that each theorem names. -/
import Derived.Test.YtiaimceefkdchaaFrameL
import Derived.Test.YtiaimceefkdchaaRefM
import Derived.Test.YtiaimceefkdchaaHeld
import Derived.Test.YtiaimceefkdchaaOwnB
import Derived.Deep.DeepCutAuto
namespace Go.Proofs.Ytiaimceefkdchaa
open Go.RowKit
/-- One array's offset more, in a frame of any size so far. -/
theorem fr_app {w1 wr : World} {R : Nat} {img n : Int} {fv : Value} {k : Nat} {ys : List Value} (hR : wr.heap[R]? = some (.cells (frCells img fv n) 28 (0, 0))) (hO : wr.ownsRow (R + 1) 3 1 fv k ys) (hB : Below w1.heap.size w1 wr) (hR1 : w1.heap.size ≤ R) (hk : k ≤ 2000000) (x : Int) :
    ∃ v' w3, (Builtin.append_ #[26, 26] 26 #[fv, .slice (some ⟨wr.heap.size, 0, none⟩) 1 1]).run Try.prog (wr.alloc (.cells #[.int .i64 x] 3)) = .ok v' w3 ∧
      w3.cell? ⟨R, 1, none⟩ = some fv ∧ w3.frozen? ⟨R, 1, none⟩ = false ∧ (w3.setCell ⟨R, 1, none⟩ v').heap[R]? = some (.cells (frCells img v' n) 28 (0, 0)) ∧ (w3.setCell ⟨R, 1, none⟩ v').ownsRow (R + 1) 3 1 v' (k + 1) (ys ++ [.int .i64 x]) ∧
      Below w1.heap.size w1 (w3.setCell ⟨R, 1, none⟩ v') := by
  have hRl := lt_of_blk hR
  obtain ⟨v', w3, h1, h2, h3⟩ := run_append_int wr (R + 1) fv k ys hO x hk (by omega)
  have hown := fun b e => hO.lt b e
  have hR2 : (wr.alloc (.cells #[.int .i64 x] 3)).heap[R]? = some (.cells (frCells img fv n) 28 (0, 0)) := ((bnew wr _).block _ hRl).trans hR
  have hR3 : w3.heap[R]? = some (.cells (frCells img fv n) 28 (0, 0)) := (h3.block R (lt_of_blk hR2) (fun e => by have := (hown R e.symm).1; omega)).trans hR2
  have hB3 : Below w1.heap.size w1 w3 := (bal hB _).grown h3 (bal hB _).size (fun b e => by have := (hown b e).1; omega)
  have hg := grown_setCell w3 ⟨R, 1, none⟩ v'
  exact ⟨v', w3, h1, (cell_of_blk hR3 1).1, (cell_of_blk hR3 1).2, blk_set hR3 1 v', own_setCell h2 _ _ (by show R < R + 1; omega), hB3.grown hg hB3.size (fun b e => by injection e with e; subst e; exact hR1)⟩
set_option maxHeartbeats 4000000 in
set_option maxRecDepth 100000 in
theorem ref26_Of (p : Ir) (av bv : Value) (hf : p.fine) (w : World) (hI : IrRep w w.heap.size p av bv) : Calls Try.prog 22 #[irVal p av bv] w (FrPost p w) := by
  have HCK := Lib.hid (fun W h => ref_Check p av bv hf W h)
  have HI0 := Lib.hid hI
  obtain ⟨AA, ac, rfl, hac⟩ := hI.1.form
  have HRA := Lib.hid hI.1
  unfold irVal at HCK ⊢
  unfold FrPost
  clear hI hac
  by_cases he : irErr p = 0
  · obtain ⟨hng, hm⟩ := irErr_ok he
    have hrl := rail_le p hng
    obtain ⟨⟨⟨hi0, hi1, _⟩, ⟨ho0, ho1, _⟩, hT0, _⟩, hae, _⟩ := hm
    have hall := arrEnd_all p.inp p.out p.arrays 0 hae
    have hoff := arrEnd_off p.inp p.out hi1 ho1 p.arrays 0 (by omega) hae
    unfold greatP at hng
    have hT1 : p.temps ≤ 1048576 := by omega
    have hn1 : p.arrays.length ≤ 1048576 := by omega
    have hrs := railSum_nonneg p.arrays
    have HALL := Lib.hid hall
    have HOFF := Lib.hid hoff
    have HSZ : Hid (∀ k, (frGo p (p.arrays.take k)).2 = 4 + 4 * p.temps + p.out + railSum (p.arrays.take k) ∧ 0 ≤ railSum (p.arrays.take k) ∧ railSum (p.arrays.take k) ≤ 65536) := Lib.hid (fun k => by
      have h1 := frGo_size p (p.arrays.take k) ([], frImg p + p.out) (fun a ha => hall a (List.mem_of_mem_take ha))
      have h2 := railSum_take p.arrays k
      have h3 := railSum_nonneg (p.arrays.take k)
      refine ⟨?_, h3, by omega⟩
      unfold frGo
      rw [h1]; unfold frImg; rfl)
    have HFE : Hid (frErr p = if 65536 < (frGo p p.arrays).2 then 18 else 0) := Lib.hid (by unfold frErr; rw [if_neg (by simpa using he)])
    have HLEN : Hid ((frGo p p.arrays).1.length = p.arrays.length) := Lib.hid (by unfold frGo; rw [frGo_len]; simp)
    rw [he] at HCK
    clear hng hae hall hoff hrl hrs he hf
    go_enter Try.func22, Try.ntmps22
    go_wp2_with fail
    refine (HCK.out _ (HI0.out.next (bal (bnew _ _) _))).mono ?_
    rintro e w2 ⟨rfl, hb⟩
    have hx := (hb.block (w.heap.size + 1) (by simp)).trans (alloc_new2 w _ _)
    have hp := (hb.block w.heap.size (by simp; omega)).trans (((bnew (w.alloc _) _).block w.heap.size (by simp)).trans (heap_alloc_new w _))
    have HX := Lib.hid hx
    have HP := Lib.hid hp
    have HB := Lib.hid (bch (bal (bnew _ _) _) hb)
    have hsz : w.heap.size + 2 ≤ w2.heap.size := by have := hb.size; simpa using this
    have c0 : w2.cell? ⟨w.heap.size, 0, none⟩ = some (.int .i64 p.temps) := (cell_of_blk hp 0).1
    obtain ⟨im, him⟩ : ∃ im, 4 * (p.temps + 1) = im := ⟨_, rfl⟩
    have HIM : Hid (im = 4 + 4 * p.temps) := Lib.hid (by omega)
    have hi4 : 0 ≤ im ∧ im ≤ 5000000 := by omega
    obtain ⟨hi40, hi41⟩ := hi4
    have e1 : wrap64 (4 * wrap64 (p.temps + 1)) = im := by rw [← him]; unfold wrap64; omega
    have hp3 := ((bnew w2 (.cells #[.int .i64 im, .slice none 0 0, .int .i64 0] 28)).block _ (lt_of_blk hp)).trans hp
    have d4 : (w2.alloc (.cells #[.int .i64 im, .slice none 0 0, .int .i64 0] 28)).cell? ⟨w.heap.size, 4, none⟩ = some (.int .i64 p.out) := (cell_of_blk hp3 4).1
    have hr3 := heap_alloc_new w2 (.cells #[.int .i64 im, .slice none 0 0, .int .i64 0] 28)
    have r0 : (w2.alloc (.cells #[.int .i64 im, .slice none 0 0, .int .i64 0] 28)).cell? ⟨w2.heap.size, 0, none⟩ = some (.int .i64 im) := (cell_of_blk hr3 0).1
    have r2 : (w2.alloc (.cells #[.int .i64 im, .slice none 0 0, .int .i64 0] 28)).cell? ⟨w2.heap.size, 2, none⟩ = some (.int .i64 0) := (cell_of_blk hr3 2).1
    have f2 : (w2.alloc (.cells #[.int .i64 im, .slice none 0 0, .int .i64 0] 28)).frozen? ⟨w2.heap.size, 2, none⟩ = false := (cell_of_blk hr3 2).2
    have hb3 := bnew w2 (.cells #[.int .i64 im, .slice none 0 0, .int .i64 (im + p.out)] 28)
    have hr4 := heap_alloc_new w2 (.cells #[.int .i64 im, .slice none 0 0, .int .i64 (im + p.out)] 28)
    have HP2 := Lib.hid hp3
    have HR4 : Hid ((w2.alloc (.cells #[.int .i64 im, .slice none 0 0, .int .i64 (im + p.out)] 28)).heap[w2.heap.size]? = some (.cells (frCells im (.slice none 0 0) (im + p.out)) 28 (0, 0))) := Lib.hid hr4
    have HB3 := Lib.hid hb3
    clear hb hx hp hp3 hr3 hr4 hb3
    go_wp2_with fail
    clear HP2 d4 r0 r2 f2 c0
    generalize w2.alloc (.cells #[.int .i64 im, .slice none 0 0, .int .i64 (im + p.out)] 28) = w3 at *
    go_loopw [6] (fun j wr => ∃ k : Nat, k ≤ p.arrays.length ∧ j = .int .i64 k ∧ Below w2.heap.size w2 wr ∧ ∃ fv, wr.heap[w2.heap.size]? = some (.cells (frCells im fv (frGo p (p.arrays.take k)).2) 28 (0, 0)) ∧ wr.ownsRow (w2.heap.size + 1) 3 1 fv k ((frGo p (p.arrays.take k)).1.map (.int .i64 ·))) (fun j _ => p.arrays.length - (intOf j).toNat)
    case atStart => exact ⟨0, by omega, rfl, HB3.out, .slice none 0 0, by rw [(HSZ.out 0).1]; show _ = some (Obj.cells (frCells im (.slice none 0 0) (4 + 4 * p.temps + p.out + 0)) _ _); rw [Int.add_zero, ← HIM.out]; exact HR4.out, World.ownsRow_nil _ _ _ _⟩
    case round =>
      obtain ⟨k, hk, rfl, hK, fv, hRB, hO⟩ := hrel
      have hsk := HSZ.out k
      have p1 : wr.cell? ⟨w.heap.size, 1, none⟩ = some (.slice AA p.arrays.length ac) := (cell_of_blk ((hK.block _ (by omega)).trans HP.out) 1).1
      by_cases hlt : k < p.arrays.length
      · obtain ⟨b, off, rfl, hb0, x0, x1, x2, x3⟩ := arr_at (HRA.out.below (bch HB.out hK) (Nat.le_refl _)) k hlt
        have hst := frGo_step p k hlt
        have hsh := HALL.out _ (getD_memI p.arrays k arrNone hlt)
        have hofs := HOFF.out _ (getD_memI p.arrays k arrNone hlt)
        generalize p.arrays.getD k arrNone = ar at *
        obtain ⟨e, l, ak, o⟩ := ar
        simp only at x0 x1 x2 x3 hofs hsh
        obtain ⟨ho1', ho2'⟩ := hofs
        generalize hG : frGo p (p.arrays.take k) = G at *
        obtain ⟨gl, gn⟩ := G
        simp only at hsk hO hRB
        obtain ⟨hs1, hs2, hs3⟩ := hsk
        have k0 : (0 : Int) ≤ (k : Int) := by omega
        have k1 : (k : Int) < (p.arrays.length : Int) := by omega
        have hgn : 0 ≤ gn ∧ gn ≤ 5000000 := by omega
        obtain ⟨hgn0, hgn1⟩ := hgn
        have HRB1 := Lib.hid (((bnew wr (.cells #[.int .i64 e, .int .i64 l, .int .i64 ak, .int .i64 o] 36)).block _ (lt_of_blk hRB)).trans hRB)
        have HO1 := Lib.hid (hO.alloc (.cells #[.int .i64 e, .int .i64 l, .int .i64 ak, .int .i64 o] 36))
        have HB1 := Lib.hid (bal hK (.cells #[.int .i64 e, .int .i64 l, .int .i64 ak, .int .i64 o] 36))
        have HA1 := Lib.hid (heap_alloc_new wr (.cells #[.int .i64 e, .int .i64 l, .int .i64 ak, .int .i64 o] 36))
        clear hG hK hRB hO hs1
        go_upto_region 10 with (fail)
        generalize wr.alloc (.cells #[.int .i64 e, .int .i64 l, .int .i64 ak, .int .i64 o] 36) = w5 at *
        clear x0 x1 x2 x3 p1
        generalize wr.heap.size = q at *
        have hq : q ≠ w2.heap.size := fun e => by have h1 := HA1.out; rw [e, HRB1.out] at h1; injection h1 with h1; injection h1 with h1 h2; cases h2
        have s0 : w5.cell? ⟨w2.heap.size, 0, none⟩ = some (.int .i64 im) := (cell_of_blk HRB1.out 0).1
        have s2 : w5.cell? ⟨w2.heap.size, 2, none⟩ = some (.int .i64 gn) := (cell_of_blk HRB1.out 2).1
        have a0 : w5.cell? ⟨q, 0, none⟩ = some (.int .i64 e) := (cell_of_blk HA1.out 0).1
        have a1 : w5.cell? ⟨q, 1, none⟩ = some (.int .i64 l) := (cell_of_blk HA1.out 1).1
        have a2 : w5.cell? ⟨q, 2, none⟩ = some (.int .i64 ak) := (cell_of_blk HA1.out 2).1
        have a3 : w5.cell? ⟨q, 3, none⟩ = some (.int .i64 o) := (cell_of_blk HA1.out 3).1
        by_cases hk1 : ak = 1
        · subst hk1
          have HST : Hid (frGo p (p.arrays.take (k + 1)) = (gl ++ [o], gn)) := Lib.hid hst
          clear hst hsh
          obtain ⟨v', w7, hrun, g1, g2, g3, g4, g5⟩ := fr_app HRB1.out HO1.out HB1.out (Nat.le_refl _) (by omega) o
          obtain ⟨gv, cv, rfl⟩ := own_form g4
          have HRUN := Lib.hid hrun
          have G3 := Lib.hid g3
          have G4 := Lib.hid g4
          have G5 := Lib.hid g5
          have s1 : w5.cell? ⟨w2.heap.size, 1, none⟩ = some fv := (cell_of_blk HRB1.out 1).1
          clear hrun g3 g4 g5
          go_wp2_with (at_builtin; refine wpList_app rfl (.tmp 60) (.tmp 62) 26 rfl HRUN.out rfl rfl ?_)
          go_roundw
          case rel => exact ⟨k + 1, by omega, by go_num, G5.out, _, by rw [HST.out]; exact G3.out, by rw [HST.out, List.map_append]; exact G4.out⟩
          case measure => simp [intOf]; omega
        · have q1 : (ak == 1) = false := by rw [beq_eq_false_iff_ne]; exact hk1
          by_cases hk2 : ak = 2
          · subst hk2
            have HST : Hid (frGo p (p.arrays.take (k + 1)) = (gl ++ [im + o], gn)) := Lib.hid (by rw [HIM.out]; exact hst)
            clear hst hsh
            obtain ⟨v', w7, hrun, g1, g2, g3, g4, g5⟩ := fr_app HRB1.out HO1.out HB1.out (Nat.le_refl _) (by omega) (im + o)
            obtain ⟨gv, cv, rfl⟩ := own_form g4
            have HRUN := Lib.hid hrun
            have G3 := Lib.hid g3
            have G4 := Lib.hid g4
            have G5 := Lib.hid g5
            have s1 : w5.cell? ⟨w2.heap.size, 1, none⟩ = some fv := (cell_of_blk HRB1.out 1).1
            clear hrun g3 g4 g5
            go_wp2_with (at_builtin; refine wpList_app rfl (.tmp 60) (.tmp 62) 26 rfl HRUN.out rfl rfl ?_)
            go_roundw
            case rel => exact ⟨k + 1, by omega, by go_num, G5.out, _, by rw [HST.out]; exact G3.out, by rw [HST.out, List.map_append]; exact G4.out⟩
            case measure => simp [intOf]; omega
          · obtain rfl : ak = 0 := by obtain ⟨_, h | h | h⟩ := hsh <;> omega
            have HST : Hid (frGo p (p.arrays.take (k + 1)) = (gl ++ [gn], gn + room ⟨e, l, 0, o⟩)) := Lib.hid (by
              rw [hst]; unfold frStep; rw [if_neg (show ¬ ((0 : Int) = 1) by decide), if_neg (show ¬ ((0 : Int) = 2) by decide)]
              unfold room; rw [if_pos hsh.1])
            have HRM : Hid (∀ W, Calls Try.prog 49 #[.agg #[.int .i64 e, .int .i64 l, .int .i64 0, .int .i64 o]] W fun e' w' => e' = .returned (.int .i64 (room ⟨e, l, 0, o⟩)) ∧ Below W.heap.size W w') := Lib.hid (fun W => ref_Room ⟨e, l, 0, o⟩ W)
            have hr0 : 0 ≤ room ⟨e, l, 0, o⟩ ∧ room ⟨e, l, 0, o⟩ ≤ 65540 := by
              unfold room; rw [if_pos hsh.1]
              obtain ⟨⟨h2, h3, h4⟩, _⟩ := hsh
              simp only at h2 h3 h4 ⊢
              unfold up4
              rcases h2 with h2 | h2 <;> rw [h2] <;> omega
            generalize room ⟨e, l, 0, o⟩ = rm at *
            obtain ⟨hr0, hr1⟩ := hr0
            have ew : IntKind.i64.wrap (gn + rm) = gn + rm := by rw [wrapi64]; unfold wrap64; omega
            have LTQ : q < w5.heap.size := lt_of_blk HA1.out
            have LTR : w2.heap.size < w5.heap.size := lt_of_blk HRB1.out
            clear hst hsh q1 hk1 hk2
            go_wp2_with fail
            refine wp_region_L (fun w' => Below w5.heap.size w5 w') 6 (by kernel_rfl) ?_
            have hS0 : Below w5.heap.size w5 w5.drew := Below.drew (Below.refl _ _)
            refine wpAnyL_take (i := 0) (some 53) (.pointer (some ⟨w2.heap.size, 2, none⟩)) rfl rfl (by kernel_rfl) (by kernel_rfl) (by kernel_rfl) (by kernel_rfl) (fun _ _ _ h => h) (by rfl) ?hvx1_0 hS0 ?restx1_0
            case hvx1_0 =>
              intro wz hSz
              go_simp
            try simp only [Act.put, List.setIfInBounds_toArray, List.set_cons_zero, List.set_cons_succ]
            refine wpAnyL_take (i := 1) (some 54) (.int .i64 gn) rfl rfl (by kernel_rfl) (by kernel_rfl) (by kernel_rfl) (by kernel_rfl) (fun _ _ _ h => h) (by rfl) ?hvx1_1 hS0 ?restx1_1
            case hvx1_1 =>
              intro wz hSz
              have z2 := (hSz.cell (p := ⟨w2.heap.size, 2, none⟩) LTR).trans s2
              go_simp
            try simp only [Act.put, List.setIfInBounds_toArray, List.set_cons_zero, List.set_cons_succ]
            refine wpAnyL_take (i := 2) (some 55) (.agg #[.int .i64 e, .int .i64 l, .int .i64 0, .int .i64 o]) rfl rfl (by kernel_rfl) (by kernel_rfl) (by kernel_rfl) (by kernel_rfl) (fun _ _ _ h => h) (by rfl) ?hvx1_2 hS0 ?restx1_2
            case hvx1_2 =>
              intro wz hSz
              have z0 := (hSz.cell (p := ⟨q, 0, none⟩) LTQ).trans a0
              have z1 := (hSz.cell (p := ⟨q, 1, none⟩) LTQ).trans a1
              have z2 := (hSz.cell (p := ⟨q, 2, none⟩) LTQ).trans a2
              have z3 := (hSz.cell (p := ⟨q, 3, none⟩) LTQ).trans a3
              go_simp
            try simp only [Act.put, List.setIfInBounds_toArray, List.set_cons_zero, List.set_cons_succ]
            refine wpAnyL_one (i := 3) (by kernel_rfl) rfl ?_
            intro K hK
            rw [if_pos (by rfl)]
            go_simp
            refine (HRM.out _).mono ?_
            rintro e wc1 ⟨rfl, hb⟩
            have hS1 := bch hS0 hb
            refine hK.out _ _ (fun _ => hS1) ?_
            clear hK hb
            try simp only [Act.put, List.setIfInBounds_toArray, List.set_cons_zero, List.set_cons_succ]
            refine wpAnyL_take (i := 4) (some 57) (.int .i64 (gn + rm)) rfl rfl (by kernel_rfl) (by kernel_rfl) (by kernel_rfl) (by kernel_rfl) (fun _ _ _ h => h) (by rfl) ?hvx1_4 hS1 ?restx1_4
            case hvx1_4 =>
              intro wz hSz
              go_simp
            try simp only [Act.put, List.setIfInBounds_toArray, List.set_cons_zero, List.set_cons_succ]
            refine wpAnyL_take (i := 5) (some 58) (.pointer (some ⟨w2.heap.size, 2, none⟩)) rfl rfl (by kernel_rfl) (by kernel_rfl) (by kernel_rfl) (by kernel_rfl) (fun _ _ _ h => h) (by rfl) ?hvx1_5 hS1 ?restx1_5
            case hvx1_5 =>
              intro wz hSz
              go_simp
            try simp only [Act.put, List.setIfInBounds_toArray, List.set_cons_zero, List.set_cons_succ]
            have zl := (hS1.cell (p := ⟨w2.heap.size, 2, none⟩) LTR).trans s2
            have zf : wc1.frozen? ⟨w2.heap.size, 2, none⟩ = false := (cell_of_blk ((hS1.block _ LTR).trans HRB1.out) 2).2
            refine wpAnyL_one (i := 6) (by kernel_rfl) rfl ?_
            intro K hK
            rw [if_pos (by rfl)]
            go_simp
            refine hK.out _ _ (fun h => absurd rfl h) ?_
            clear hK zl zf
            try simp only [Act.put, List.setIfInBounds_toArray, List.set_cons_zero, List.set_cons_succ]
            refine wpAnyL_done (by kernel_rfl) ?_ _
            go_upto_region 16 with (fail)
            have hBk := Below.refl w5.heap.size w5
            have HRB2 := Lib.hid (blk_set ((hS1.block _ LTR).trans HRB1.out) 2 (.int .i64 (gn + rm)))
            have HO2 := Lib.hid (own_setCell (own_below HO1.out hS1) ⟨w2.heap.size, 2, none⟩ (.int .i64 (gn + rm)) (by show w2.heap.size < w2.heap.size + 1; omega))
            have HB2 := Lib.hid ((bch HB1.out hS1).grown (grown_setCell wc1 ⟨w2.heap.size, 2, none⟩ (.int .i64 (gn + rm))) (bch HB1.out hS1).size (fun b e => by injection e with e; have e2 : w2.heap.size = b := e; omega))
            clear s0 s2 a0 a1 a2 a3 HRB1 HO1 HB1 HA1
            generalize wc1.setCell ⟨w2.heap.size, 2, none⟩ (.int .i64 (gn + rm)) = w6 at *
            obtain ⟨v', w7, hrun, g1, g2, g3, g4, g5⟩ := fr_app HRB2.out HO2.out HB2.out (Nat.le_refl _) (by omega) gn
            obtain ⟨gv, cv, rfl⟩ := own_form g4
            have HRUN := Lib.hid hrun
            have G3 := Lib.hid g3
            have G4 := Lib.hid g4
            have G5 := Lib.hid g5
            have s1 : w6.cell? ⟨w2.heap.size, 1, none⟩ = some fv := (cell_of_blk HRB2.out 1).1
            clear hrun g3 g4 g5
            go_wp2_with (at_builtin; refine wpList_app rfl (.tmp 60) (.tmp 62) 26 rfl HRUN.out rfl rfl ?_)
            go_roundw
            case rel => exact ⟨k + 1, by omega, by go_num, G5.out, _, by rw [HST.out]; exact G3.out, by rw [HST.out, List.map_append]; exact G4.out⟩
            case measure => simp [intOf]; omega
      · obtain rfl : k = p.arrays.length := by omega
        rw [List.take_length] at hsk hO hRB
        generalize hG : frGo p p.arrays = G at *
        obtain ⟨gl, gn⟩ := G
        simp only at hsk hO hRB
        obtain ⟨hs1, hs2, hs3⟩ := hsk
        obtain ⟨FA, cp, rfl⟩ := own_len hO
        have hgn0 : 0 ≤ gn := by omega
        have HXF := Lib.hid ((hK.block (w.heap.size + 1) (lt_of_blk HX.out)).trans HX.out)
        have HBF := Lib.hid (bch HB.out hK)
        have HOF := Lib.hid hO
        have r0 : wr.cell? ⟨w2.heap.size, 0, none⟩ = some (.int .i64 im) := (cell_of_blk hRB 0).1
        have r1 : wr.cell? ⟨w2.heap.size, 1, none⟩ = some (.slice FA p.arrays.length cp) := (cell_of_blk hRB 1).1
        have r2 : wr.cell? ⟨w2.heap.size, 2, none⟩ = some (.int .i64 gn) := (cell_of_blk hRB 2).1
        have z0 := (cell_of_blk HXF.out 0).1
        have z1 := (cell_of_blk HXF.out 1).1
        have z2 := (cell_of_blk HXF.out 2).1
        have u0 := (cell_of_blk HXF.out 0).2
        have u1 := (cell_of_blk HXF.out 1).2
        have u2 := (cell_of_blk HXF.out 2).2
        simp only [List.getElem?_toArray, List.getElem?_cons_zero, List.getElem?_cons_succ] at z0 z1 z2
        have HGG : Hid (frGo p p.arrays = (gl, gn)) := Lib.hid hG
        have HLL : Hid (gl.length = p.arrays.length) := Lib.hid HLEN.out
        have HFF : Hid (frErr p = if 65536 < gn then 18 else 0) := Lib.hid HFE.out
        clear hK hRB hO hs1 hG
        by_cases hbig : 65536 < gn
        · have hfe : frErr p = 18 := by rw [HFF.out, if_pos hbig]
          have hfl : frLay p = ⟨0, [], 0⟩ := by unfold frLay; rw [hfe, if_neg (by decide)]
          have HFL := Lib.hid hfl
          have HFEE := Lib.hid hfe
          clear hfe hfl
          go_wp2_with fail
          obtain ⟨hx4, hg4⟩ := three_set HXF.out (.int .i64 0) (.slice none 0 0) (.int .i64 0)
          have hb4 := HBF.out.grown hg4 HBF.out.size (fun b e => by injection e with e; have e2 : w.heap.size + 1 = b := e; omega)
          have ho4 := HOF.out.kept hg4 (by cases hv : (Value.slice FA p.arrays.length cp).ownBlock with
            | none => exact .inl rfl
            | some k => exact .inr (fun e => by injection e with e; have := (HOF.out.lt k hv).1; omega))
          generalize ((wr.setCell ⟨w.heap.size + 1, 0, none⟩ (.int .i64 0)).setCell ⟨w.heap.size + 1, 1, none⟩ (.slice none 0 0)).setCell ⟨w.heap.size + 1, 2, none⟩ (.int .i64 0) = w4 at *
          have m0 : w4.cell? ⟨w.heap.size + 1, 0, none⟩ = some (.int .i64 0) := (cell_of_blk hx4 0).1
          have m1 : w4.cell? ⟨w.heap.size + 1, 1, none⟩ = some (.slice none 0 0) := (cell_of_blk hx4 1).1
          have m2 : w4.cell? ⟨w.heap.size + 1, 2, none⟩ = some (.int .i64 0) := (cell_of_blk hx4 2).1
          clear hx4 hg4
          refine bodyPost_ret (by simp [results, Try.results22, go_sem, m0, m1, m2]; try rfl) rfl ?_
          exact ⟨.slice none 0 0, by rw [HFL.out, HFEE.out]; rfl, hb4, by rw [HFL.out]; exact World.ownsRow_nil _ _ _ _⟩
        · have hfe : frErr p = 0 := by rw [HFF.out, if_neg hbig]
          have hfl : frLay p = ⟨im, gl, gn⟩ := by unfold frLay; rw [if_pos hfe, HGG.out, HIM.out]; rfl
          have HFL := Lib.hid hfl
          have HFEE := Lib.hid hfe
          clear hfe hfl
          go_wp2_with fail
          obtain ⟨hx4, hg4⟩ := three_set HXF.out (.int .i64 im) (.slice FA p.arrays.length cp) (.int .i64 gn)
          have hb4 := HBF.out.grown hg4 HBF.out.size (fun b e => by injection e with e; have e2 : w.heap.size + 1 = b := e; omega)
          have ho4 := HOF.out.kept hg4 (by cases hv : (Value.slice FA p.arrays.length cp).ownBlock with
            | none => exact .inl rfl
            | some k => exact .inr (fun e => by injection e with e; have := (HOF.out.lt k hv).1; omega))
          generalize ((wr.setCell ⟨w.heap.size + 1, 0, none⟩ (.int .i64 im)).setCell ⟨w.heap.size + 1, 1, none⟩ (.slice FA p.arrays.length cp)).setCell ⟨w.heap.size + 1, 2, none⟩ (.int .i64 gn) = w4 at *
          have m0 : w4.cell? ⟨w.heap.size + 1, 0, none⟩ = some (.int .i64 im) := (cell_of_blk hx4 0).1
          have m1 : w4.cell? ⟨w.heap.size + 1, 1, none⟩ = some (.slice FA p.arrays.length cp) := (cell_of_blk hx4 1).1
          have m2 : w4.cell? ⟨w.heap.size + 1, 2, none⟩ = some (.int .i64 gn) := (cell_of_blk hx4 2).1
          clear hx4 hg4
          refine bodyPost_ret (by simp [results, Try.results22, go_sem, m0, m1, m2]; try rfl) rfl ?_
          exact ⟨.slice FA p.arrays.length cp, by rw [HFL.out, HFEE.out]; rfl, hb4, by rw [HFL.out]; show w4.ownsRow _ _ _ _ gl.length _; rw [HLL.out]; exact own_more ho4 (by omega)⟩
  · have hq : (irErr p != 0) = true := by rw [bne_iff_ne]; exact he
    have hfe : frErr p = irErr p := by unfold frErr; rw [if_pos he]
    have hfl : frLay p = ⟨0, [], 0⟩ := by unfold frLay; rw [hfe, if_neg he]
    rw [hfe, hfl]
    generalize irErr p = R at *
    clear he hfe hfl
    go_enter Try.func22, Try.ntmps22
    go_wp2_with fail
    refine (HCK.out _ (HI0.out.next (bal (bnew _ _) _))).mono ?_
    rintro e w2 ⟨rfl, hb⟩
    have hx := (hb.block (w.heap.size + 1) (by simp)).trans (alloc_new2 w _ _)
    have HX := Lib.hid hx
    have HB := Lib.hid (bch (bal (bnew _ _) _) hb)
    have hsz := hb.size
    have z0 := (cell_of_blk hx 0).1
    have z1 := (cell_of_blk hx 1).1
    have z2 := (cell_of_blk hx 2).1
    have y0 := (cell_of_blk hx 0).2
    have y1 := (cell_of_blk hx 1).2
    have y2 := (cell_of_blk hx 2).2
    clear hb
    go_wp2_with fail
    have hx4 := blk_set (blk_set (blk_set hx 0 (.int .i64 0)) 1 (.slice none 0 0)) 2 (.int .i64 0)
    have hg1 := grown_setCell w2 ⟨w.heap.size + 1, 0, none⟩ (.int .i64 0)
    have hg2 := grown_setCell (w2.setCell ⟨w.heap.size + 1, 0, none⟩ (.int .i64 0)) ⟨w.heap.size + 1, 1, none⟩ (.slice none 0 0)
    have hg3 := grown_setCell ((w2.setCell ⟨w.heap.size + 1, 0, none⟩ (.int .i64 0)).setCell ⟨w.heap.size + 1, 1, none⟩ (.slice none 0 0)) ⟨w.heap.size + 1, 2, none⟩ (.int .i64 0)
    have hb4 := HB.out.grown (grown_two (grown_two hg1 hg2) hg3) HB.out.size (fun b e => by injection e with e; have e2 : w.heap.size + 1 = b := e; omega)
    generalize ((w2.setCell ⟨w.heap.size + 1, 0, none⟩ (.int .i64 0)).setCell ⟨w.heap.size + 1, 1, none⟩ (.slice none 0 0)).setCell ⟨w.heap.size + 1, 2, none⟩ (.int .i64 0) = w4 at *
    have k0 : w4.cell? ⟨w.heap.size + 1, 0, none⟩ = some (.int .i64 0) := (cell_of_blk hx4 0).1
    have k1 : w4.cell? ⟨w.heap.size + 1, 1, none⟩ = some (.slice none 0 0) := (cell_of_blk hx4 1).1
    have k2 : w4.cell? ⟨w.heap.size + 1, 2, none⟩ = some (.int .i64 0) := (cell_of_blk hx4 2).1
    clear hg1 hg2 hg3 hx4 hx z0 z1 z2 y0 y1 y2
    refine bodyPost_ret (by simp [results, Try.results22, go_sem, k0, k1, k2]; try rfl) rfl ?_
    exact ⟨.slice none 0 0, rfl, hb4, World.ownsRow_nil _ _ _ _⟩
end Go.Proofs.Ytiaimceefkdchaa
