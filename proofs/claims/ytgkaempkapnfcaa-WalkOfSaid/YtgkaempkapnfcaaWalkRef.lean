/- The contract of hauberkref36.Of: of events that lie below the heap's old size, and not more than 2^44, it tells the walk in whole numbers; nothing that lay there changes. -/
import Derived.Test.YtgkaempkapnfcaaWalkOf
import Derived.StillTailTactics
namespace Go.Proofs.Ytgkaempkapnfcaa
open Go.RowKit

theorem ref36_Of (A : Option Addr) (c : Nat) (xs : List Ev) (w : World) (hA : EvSl w w.heap.size A xs) (hn : xs.length ≤ 17592186044416) :
    Calls Try.prog 51 #[.slice A xs.length c] w fun e w' => e = .returned (wkVal (wkOf xs)) ∧ Below w.heap.size w w' := by
  have HA := Lib.hid hA
  clear hA
  go_enter Try.func51, Try.ntmps51
  go_wp2_with fail
  generalize hW : (w.alloc (Obj.cells #[Value.int IntKind.i64 0, Value.int IntKind.i64 0, Value.int IntKind.i64 0] 33)).alloc (Obj.cells #[Value.int IntKind.i64 0, Value.int IntKind.i64 0, Value.int IntKind.i64 0] 33) = W1
  have HW := Lib.hid hW
  clear hW
  have hz : w.heap.size + 1 + 1 = W1.heap.size := by rw [← HW.out]; simp
  have hW1 : Below w.heap.size w W1 := by rw [← HW.out]; exact ((Below.refl _ _).alloc (Nat.le_refl _) _).alloc (by simp) _
  have hs1 : W1.heap[w.heap.size + 1]? = some (.cells #[.int .i64 0, .int .i64 0, .int .i64 0] 33 (0, 0)) := by
    rw [← HW.out]; have := heap_alloc_new (w.alloc (Obj.cells #[Value.int IntKind.i64 0, Value.int IntKind.i64 0, Value.int IntKind.i64 0] 33)) (Obj.cells #[Value.int IntKind.i64 0, Value.int IntKind.i64 0, Value.int IntKind.i64 0] 33)
    simpa using this
  have hs0 : W1.heap[w.heap.size]? = some (.cells #[.int .i64 0, .int .i64 0, .int .i64 0] 33 (0, 0)) := by
    rw [← HW.out, Below.heap_alloc _ _ _ (by simp)]; exact heap_alloc_new w _
  have HZ := Lib.hid hz
  have HW1 := Lib.hid hW1
  have HS1 := Lib.hid hs1
  have HS0 := Lib.hid hs0
  clear hz hW1 hs1 hs0
  go_loopw [4] (fun i wr => ∃ k : Nat, k ≤ xs.length ∧ i = .int .i64 k ∧ Below (w.heap.size + 1) W1 wr ∧
      wr.heap[w.heap.size + 1]? = some (.cells #[.int .i64 (wkOf (xs.take k)).re, .int .i64 (wkOf (xs.take k)).im, .int .i64 ((wkOf (xs.take k)).t : Int)] 33 (0, 0))) (fun i _ => xs.length - (intOf i).toNat)
  case atStart => exact ⟨0, Nat.zero_le _, rfl, Below.refl _ _, HS1.out⟩
  case round =>
    obtain ⟨k, hk, rfl, hB, hblk⟩ := hrel
    have hBw : Below w.heap.size w wr := HW1.out.trans (hB.mono (by omega))
    have hge : w.heap.size + 1 < wr.heap.size := by have := HZ.out; have := hB.size; omega
    have inv := wkOf_inv (xs.take k)
    by_cases hlt : k < xs.length
    · have hs := wkOf_take_succ xs k hlt
      have hne : xs ≠ [] := by intro e; rw [e] at hlt; simp at hlt
      obtain ⟨b, off, rfl, hlt', hcell⟩ := HA.out hne
      obtain ⟨h0, h1, h2, h3⟩ := hcell k hlt
      rw [← hBw.cell hlt'] at h0 h1 h2 h3
      have hlen : (xs.take k).length ≤ 17592186044416 := by rw [List.length_take]; omega
      generalize xs.getD k evNone = ev at *
      generalize wkOf (xs.take k) = st at *
      obtain ⟨re, im, t⟩ := st
      simp only at inv hblk
      have hT := evT_lt ev
      have hC := evC_lt ev
      have q0 : wr.cell? ⟨w.heap.size + 1, 0, none⟩ = some (.int .i64 re) := (cell_of_blk hblk 0).1
      have q1 : wr.cell? ⟨w.heap.size + 1, 1, none⟩ = some (.int .i64 im) := (cell_of_blk hblk 1).1
      have q2 : wr.cell? ⟨w.heap.size + 1, 2, none⟩ = some (.int .i64 (t : Int)) := (cell_of_blk hblk 2).1
      have z0 := (cell_of_blk hblk 0).2
      have z1 := (cell_of_blk hblk 1).2
      have z2 := (cell_of_blk hblk 2).2
      have hq : wrap64 ((IntKind.u64.wrap ev.cyc).tmod 256) = evC ev := by rw [u64_tmod]; unfold evC wrap64; omega
      have hq2 : wrap64 (IntKind.u64.wrap (((IntKind.u64.wrap ev.pc).tmod 4294967296).tdiv 2)) = ev.pc % 4294967296 / 2 := by rw [u64_tmod, Int.tdiv_eq_ediv_of_nonneg (by omega), wrapu64]; unfold wrap64; omega
      have hq3 : wrap64 ((IntKind.u64.wrap ev.kind).tmod 4) = ev.kind % 4 := by rw [u64_tmod]; unfold wrap64; omega
      have hq4 : 0 ≤ ev.pc % 4294967296 / 2 := by omega
      have hq5 : ev.pc % 4294967296 / 2 < 2147483648 := by omega
      have hI := inv.1
      have HI := Lib.hid inv
      have HB := Lib.hid hB
      have HBL := Lib.hid hblk
      have HS := Lib.hid hs
      clear inv hB hblk hs hcell hBw
      go_wp2_with (go_at_call 72; refine (ref36_left (evC ev) 0 (by omega) (by omega) (by omega) (by omega) t hI _).mono ?_; rintro e w' ⟨rfl, rfl⟩)
      have hfin : Below (w.heap.size + 1) W1 ((wr.setCell ⟨w.heap.size + 1, 0, none⟩ (.int .i64 (wrap64 (re + rotX (evC ev) 0 t)))).setCell ⟨w.heap.size + 1, 1, none⟩ (.int .i64 (wrap64 (im + rotY (evC ev) 0 t)))) := (HB.out.setCell (Nat.le_refl _) _).setCell (Nat.le_refl _) _
      have hblk := blk_set (blk_set HBL.out 0 (.int .i64 (wrap64 (re + rotX (evC ev) 0 t)))) 1 (.int .i64 (wrap64 (im + rotY (evC ev) 0 t)))
      have hbb : ((wr.setCell ⟨w.heap.size + 1, 0, none⟩ (.int .i64 (wrap64 (re + rotX (evC ev) 0 t)))).setCell ⟨w.heap.size + 1, 1, none⟩ (.int .i64 (wrap64 (im + rotY (evC ev) 0 t)))).cell? ⟨b, off + k * 4, none⟩ = some (.int .i64 ev.kind) := by
        rw [World.cell?_setCell_other _ _ _ _ (by intro e; injection e; omega), World.cell?_setCell_other _ _ _ _ (by intro e; injection e; omega)]; exact h0
      generalize (wr.setCell ⟨w.heap.size + 1, 0, none⟩ (.int .i64 (wrap64 (re + rotX (evC ev) 0 t)))).setCell ⟨w.heap.size + 1, 1, none⟩ (.int .i64 (wrap64 (im + rotY (evC ev) 0 t))) = w3 at *
      have p2 : w3.cell? ⟨w.heap.size + 1, 2, none⟩ = some (.int .i64 (t : Int)) := (cell_of_blk hblk 2).1
      have y2 := (cell_of_blk hblk 2).2
      have HB2 := Lib.hid hfin
      have HBL2 := Lib.hid hblk
      clear h0 h1 h2 h3 q0 q1 q2 z0 z1 z2 hfin hblk
      go_still_tail 16, (by kernel_rfl)
      change wpList _ _ _ _ _ w3.drew
      have p3 : w3.drew.cell? ⟨w.heap.size + 1, 2, none⟩ = some (.int .i64 (t : Int)) := p2
      have y3 : w3.drew.frozen? ⟨w.heap.size + 1, 2, none⟩ = false := y2
      generalize hw4 : w3.drew = w4 at *
      have HW4 := Lib.hid hw4
      clear hw4
      go_wp2
      go_roundw
      case rel =>
        refine ⟨k + 1, by omega, by go_num, ?_, ?_⟩
        · rw [← HW4.out]; exact (HB2.out.drew).setCell (Nat.le_refl _) _
        · rw [← HW4.out, HS.out]
          refine (blk_set (w := w3.drew) HBL2.out 2 _).trans ?_
          have hI2 := HI.out
          have e1 : wrap64 (re + rotX (evC ev) 0 t) = re + evC ev * cosI t := by
            rw [rotX_eq _ _ _ hI, Int.zero_mul, Int.sub_zero]
            rcases (cos_sin t).1 with h | h | h <;> rw [h] <;> exact wrap64_small _ (by omega) (by omega)
          have e2 : wrap64 (im + rotY (evC ev) 0 t) = im + evC ev * sinI t := by
            rw [rotY_eq _ _ _ hI, Int.zero_mul, Int.add_zero]
            rcases (cos_sin t).2 with h | h | h <;> rw [h] <;> exact wrap64_small _ (by omega) (by omega)
          have e3 : (wrap64 ((t : Int) + ev.pc % 4294967296 / 2 % 4 + ev.kind % 4)).tmod 4 = (((t + evT ev) % 4 : Nat) : Int) := by
            rw [wrap64_small _ (by omega) (by omega), Int.tmod_eq_emod_of_nonneg (by omega)]; unfold evT; omega
          rw [e1, e2, e3]
          rfl
      case measure => simp [intOf]; omega
    · obtain rfl : k = xs.length := by omega
      rw [List.take_length] at hblk inv
      have q0 : wr.cell? ⟨w.heap.size + 1, 0, none⟩ = some (.int .i64 (wkOf xs).re) := (cell_of_blk hblk 0).1
      have q1 : wr.cell? ⟨w.heap.size + 1, 1, none⟩ = some (.int .i64 (wkOf xs).im) := (cell_of_blk hblk 1).1
      have q2 : wr.cell? ⟨w.heap.size + 1, 2, none⟩ = some (.int .i64 ((wkOf xs).t : Int)) := (cell_of_blk hblk 2).1
      have hr := (hB.block w.heap.size (by omega)).trans HS0.out
      have p0 := (cell_of_blk hr 0).1
      have y0 := (cell_of_blk hr 0).2
      have p1 := (cell_of_blk hr 1).1
      have y1 := (cell_of_blk hr 1).2
      have p2 := (cell_of_blk hr 2).1
      have y2 := (cell_of_blk hr 2).2
      simp only [List.getElem?_toArray, List.getElem?_cons_zero, List.getElem?_cons_succ] at p0 p1 p2
      have HR := Lib.hid hr
      have HBw := Lib.hid hBw
      clear hB hblk hr inv hBw
      go_wp2
      have hfin : Below w.heap.size w (((wr.setCell ⟨w.heap.size, 0, none⟩ (.int .i64 (wkOf xs).re)).setCell ⟨w.heap.size, 1, none⟩ (.int .i64 (wkOf xs).im)).setCell ⟨w.heap.size, 2, none⟩ (.int .i64 ((wkOf xs).t : Int))) :=
        ((HBw.out.setCell (Nat.le_refl _) _).setCell (Nat.le_refl _) _).setCell (Nat.le_refl _) _
      have hblk := blk_set (blk_set (blk_set HR.out 0 (.int .i64 (wkOf xs).re)) 1 (.int .i64 (wkOf xs).im)) 2 (.int .i64 ((wkOf xs).t : Int))
      generalize ((wr.setCell ⟨w.heap.size, 0, none⟩ (.int .i64 (wkOf xs).re)).setCell ⟨w.heap.size, 1, none⟩ (.int .i64 (wkOf xs).im)).setCell ⟨w.heap.size, 2, none⟩ (.int .i64 ((wkOf xs).t : Int)) = W3 at *
      have r0 : W3.cell? ⟨w.heap.size, 0, none⟩ = some (.int .i64 (wkOf xs).re) := (cell_of_blk hblk 0).1
      have r1 : W3.cell? ⟨w.heap.size, 1, none⟩ = some (.int .i64 (wkOf xs).im) := (cell_of_blk hblk 1).1
      have r2 : W3.cell? ⟨w.heap.size, 2, none⟩ = some (.int .i64 ((wkOf xs).t : Int)) := (cell_of_blk hblk 2).1
      exact bodyPost_ret (v := wkVal (wkOf xs)) (by simp [results, Try.results51, go_sem, r0, r1, r2, wkVal]) rfl ⟨rfl, hfin⟩
end Go.Proofs.Ytgkaempkapnfcaa
