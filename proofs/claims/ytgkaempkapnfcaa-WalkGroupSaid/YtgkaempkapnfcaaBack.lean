/- The contract of walk.Back: the way back of a walk that may be, in whole numbers. -/
import Derived.Test.YtgkaempkapnfcaaThen
namespace Go.Proofs.Ytgkaempkapnfcaa
open Go.RowKit

def nRe (k : Nat) : Nat := Op.negFloat .f64 (uRe k)
def nIm (k : Nat) : Nat := Op.negFloat .f64 (uIm k)
theorem isF_nRe : ∀ k, k < 4 → IsF (nRe k) (-cosI k)
  | 0, _ => isF_negone
  | 1, _ => isF_negzero
  | 2, _ => isF_one
  | 3, _ => isF_zero
theorem isF_nIm : ∀ k, k < 4 → IsF (nIm k) (-sinI k)
  | 0, _ => isF_negzero
  | 1, _ => isF_negone
  | 2, _ => isF_negzero
  | 3, _ => isF_one
/-- The way back. -/
def Wk.back (a : Wk) : Wk := ⟨-cosI ((4 - a.t) % 4) * a.re - -sinI ((4 - a.t) % 4) * a.im, -cosI ((4 - a.t) % 4) * a.im + -sinI ((4 - a.t) % 4) * a.re, (4 - a.t) % 4⟩
theorem walk_Back_yes (a : Wk) (ha : a.may) (w : World) :
    Calls Try.prog 61 #[wkVal a] w fun e w' => e = .returned (wkVal a.back) ∧ Below w.heap.size w w' := by
  obtain ⟨a1, a2, ak⟩ := a
  have hma := mayB_yes ha
  obtain ⟨ha1, ha2, ha3, ha4, ha5⟩ := ha
  simp only at hma ha1 ha2 ha3 ha4 ha5
  have hk : (4 - ak) % 4 < 4 := by omega
  have hke : ((4 : Int) - (ak : Int)).tmod 4 = (((4 - ak) % 4 : Nat) : Int) := by
    rw [Int.tmod_eq_emod_of_nonneg (by omega)]; omega
  unfold wkVal Wk.back
  simp only
  generalize (4 - ak) % 4 = l at *
  have hr := cos_sin l
  obtain ⟨r1, i1, g1, f1, f2⟩ := cmul_run (isF_nRe l hk) (isF_nIm l hk) (IsF.ofInt (n := a1) (by unfold big; omega)) (IsF.ofInt (n := a2) (by unfold big; omega))
    (by unfold big; rcases hr.1 with h | h | h <;> rw [h] <;> omega) (by unfold big; rcases hr.2 with h | h | h <;> rw [h] <;> omega)
    (by unfold big; rcases hr.1 with h | h | h <;> rcases hr.2 with h' | h' | h' <;> rw [h, h'] <;> omega)
    (by unfold big; rcases hr.1 with h | h | h <;> rw [h] <;> omega) (by unfold big; rcases hr.2 with h | h | h <;> rw [h] <;> omega)
    (by unfold big; rcases hr.1 with h | h | h <;> rcases hr.2 with h' | h' | h' <;> rw [h, h'] <;> omega)
  have hn1 : (-cosI l * a1 - -sinI l * a2).natAbs < big := by unfold big; rcases hr.1 with h | h | h <;> rcases hr.2 with h' | h' | h' <;> rw [h, h'] <;> omega
  have hn2 : (-cosI l * a2 + -sinI l * a1).natAbs < big := by unfold big; rcases hr.1 with h | h | h <;> rcases hr.2 with h' | h' | h' <;> rw [h, h'] <;> omega
  have HA := Lib.hid (fun W => walk_at r1 i1 (uRe l) (uIm l) _ _ _ hk f1 f2 (isF_uRe l hk) (isF_uIm l hk) hn1 hn2 W)
  have hneg : ∀ (W : World), (Op.unary .neg (.complex .f64 (uRe l) (uIm l))).run Try.prog W = .ok (.complex .f64 (nRe l) (nIm l)) W := fun W => rfl
  clear hr f1 f2 hn1 hn2
  generalize -cosI l * a1 - -sinI l * a2 = x1 at *
  generalize -cosI l * a2 + -sinI l * a1 = x2 at *
  go_enter Try.func61, Try.ntmps61
  go_wp2_with fail
  have hv0 := heap_twob w (Obj.cells #[Value.int IntKind.i64 a1, Value.int IntKind.i64 a2, Value.int IntKind.i64 (ak : Int)] 30) (Obj.cells #[Value.int IntKind.i64 0, Value.int IntKind.i64 0, Value.int IntKind.i64 0] 30)
  generalize (w.alloc (Obj.cells #[Value.int IntKind.i64 a1, Value.int IntKind.i64 a2, Value.int IntKind.i64 (ak : Int)] 30)).alloc (Obj.cells #[Value.int IntKind.i64 0, Value.int IntKind.i64 0, Value.int IntKind.i64 0] 30) = W1 at *
  obtain ⟨hz, hbw, hx0, hx1⟩ := hv0
  have HX := Lib.hid (⟨hbw, hz⟩ : Below w.heap.size w W1 ∧ W1.heap.size = w.heap.size + 1 + 1)
  have HX0 := Lib.hid hx0
  have HX1 := Lib.hid hx1
  have hlt0 : w.heap.size < W1.heap.size := by omega
  have hlt1 : w.heap.size + 1 < W1.heap.size := by omega
  clear hz hbw hx0 hx1
  refine (walk_may _ _ _ _).mono ?_
  rintro e w2 ⟨rfl, hb2⟩
  rw [hma]
  have y0 := (hb2.block _ hlt0).trans HX0.out
  have c0 := (cell_of_blk y0 0).1
  have c1 := (cell_of_blk y0 1).1
  have c2 := (cell_of_blk y0 2).1
  simp only [List.getElem?_toArray, List.getElem?_cons_zero, List.getElem?_cons_succ] at c0 c1 c2
  have HB2 := Lib.hid hb2
  clear y0 hb2
  go_wp2_with (first | (go_at_call 70; refine (walk_unit l hk _).mono ?_; rintro e w' ⟨rfl, rfl⟩) | (go_at_call 74; refine (walk_place _ _ _ _).mono ?_; rintro e w4 ⟨rfl, hb4⟩; have HB4 := Lib.hid (bch HB2.out hb4); clear hb4) | (go_at_call 71; refine (HA.out _).mono ?_; rintro e w6 ⟨rfl, hb6⟩; have HB6 := Lib.hid (bch HB4.out hb6); have z2 := (HB6.out.block _ hlt1).trans HX1.out; have q0 := (cell_of_blk z2 0).1; have q1 := (cell_of_blk z2 1).1; have q2 := (cell_of_blk z2 2).1; have t0 := (cell_of_blk z2 0).2; have t1 := (cell_of_blk z2 1).2; have t2 := (cell_of_blk z2 2).2; have Z2 := Lib.hid z2; clear z2; simp only [List.getElem?_toArray, List.getElem?_cons_zero, List.getElem?_cons_succ] at q0 q1 q2))
  have hfin : Below w.heap.size w (((w6.setCell ⟨w.heap.size + 1, 0, none⟩ (.int .i64 x1)).setCell ⟨w.heap.size + 1, 1, none⟩ (.int .i64 x2)).setCell ⟨w.heap.size + 1, 2, none⟩ (.int .i64 (l : Int))) :=
    (((bch HX.out.1 HB6.out).setCell (by simp) _).setCell (by simp) _).setCell (by simp) _
  have hblk := blk_set (blk_set (blk_set Z2.out 0 (.int .i64 x1)) 1 (.int .i64 x2)) 2 (.int .i64 (l : Int))
  generalize ((w6.setCell ⟨w.heap.size + 1, 0, none⟩ (.int .i64 x1)).setCell ⟨w.heap.size + 1, 1, none⟩ (.int .i64 x2)).setCell ⟨w.heap.size + 1, 2, none⟩ (.int .i64 (l : Int)) = W3 at *
  have r0 : W3.cell? ⟨w.heap.size + 1, 0, none⟩ = some (.int .i64 x1) := (cell_of_blk hblk 0).1
  have r1 : W3.cell? ⟨w.heap.size + 1, 1, none⟩ = some (.int .i64 x2) := (cell_of_blk hblk 1).1
  have r2 : W3.cell? ⟨w.heap.size + 1, 2, none⟩ = some (.int .i64 (l : Int)) := (cell_of_blk hblk 2).1
  exact bodyPost_ret (v := .agg #[.int .i64 x1, .int .i64 x2, .int .i64 (l : Int)]) (by simp [results, Try.results61, go_sem, r0, r1, r2]) rfl ⟨rfl, hfin⟩
end Go.Proofs.Ytgkaempkapnfcaa
