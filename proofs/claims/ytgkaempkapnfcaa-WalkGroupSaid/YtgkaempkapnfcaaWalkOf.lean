/- The contract of walk.Of: of events that lie below the heap's old size, and not more than 2^44, it tells the walk in whole numbers; nothing that lay there changes. -/
import Derived.Test.YtgkaempkapnfcaaEvents
namespace Go.Proofs.Ytgkaempkapnfcaa
open Go.RowKit

theorem cmul_run {a b c d : Nat} {n1 n2 m1 m2 : Int} (ha : IsF a n1) (hb : IsF b n2) (hc : IsF c m1) (hd : IsF d m2) (h1 : (n1 * m1).natAbs < big) (h2 : (n2 * m2).natAbs < big) (h3 : (n1 * m1 - n2 * m2).natAbs < big)
    (h4 : (n1 * m2).natAbs < big) (h5 : (n2 * m1).natAbs < big) (h6 : (n1 * m2 + n2 * m1).natAbs < big) :
    ∃ re im, (∀ (t : TypeId) (W : World), (binOp .mul t (.complex .f64 a b) (.complex .f64 c d)).run Try.prog W = .ok (.complex .f64 re im) W) ∧ IsF re (n1 * m1 - n2 * m2) ∧ IsF im (n1 * m2 + n2 * m1) := by
  obtain ⟨ac, e1, f1⟩ := ha.prod hc h1
  obtain ⟨bd, e2, f2⟩ := hb.prod hd h2
  obtain ⟨re, e3, f3⟩ := f1.diff f2 h3
  obtain ⟨ad, e4, f4⟩ := ha.prod hd h4
  obtain ⟨bc, e5, f5⟩ := hb.prod hc h5
  obtain ⟨im, e6, f6⟩ := f4.sum f5 h6
  refine ⟨re, im, fun t W => run_complex_mul W t _ _ _ _ _ _ ?_, f3, f6⟩
  simp [cMulBits, floatBits, FloatKind.format, e1, e2, e3, e4, e5, e6]
theorem csum_run {a b c d : Nat} {n1 n2 m1 m2 : Int} (ha : IsF a n1) (hb : IsF b n2) (hc : IsF c m1) (hd : IsF d m2) (h1 : (n1 + m1).natAbs < big) (h2 : (n2 + m2).natAbs < big) :
    ∃ re im, (∀ (t : TypeId) (W : World), (binOp .add t (.complex .f64 a b) (.complex .f64 c d)).run Try.prog W = .ok (.complex .f64 re im) W) ∧ IsF re (n1 + m1) ∧ IsF im (n2 + m2) := by
  obtain ⟨re, e1, f1⟩ := ha.sum hc h1
  obtain ⟨im, e2, f2⟩ := hb.sum hd h2
  refine ⟨re, im, fun t W => run_complex_sum W .add (.inl rfl) t _ _ _ _ _ _ _ ?_, f1, f2⟩
  simp [cSumBits, floatBits, FloatKind.format, e1, e2]
theorem cos_add (j k : Nat) (hj : j < 4) (hk : k < 4) : cosI j * cosI k - sinI j * sinI k = cosI ((j + k) % 4) ∧ cosI j * sinI k + sinI j * cosI k = sinI ((j + k) % 4) := by
  match j, hj, k, hk with
  | 0, _, 0, _ | 0, _, 1, _ | 0, _, 2, _ | 0, _, 3, _ => exact ⟨rfl, rfl⟩
  | 1, _, 0, _ | 1, _, 1, _ | 1, _, 2, _ | 1, _, 3, _ => exact ⟨rfl, rfl⟩
  | 2, _, 0, _ | 2, _, 1, _ | 2, _, 2, _ | 2, _, 3, _ => exact ⟨rfl, rfl⟩
  | 3, _, 0, _ | 3, _, 1, _ | 3, _, 2, _ | 3, _, 3, _ => exact ⟨rfl, rfl⟩
/-- The turn: one quarter turn behind another one. -/
theorem turn_run {a b : Nat} {j : Nat} (hj : j < 4) (ha : IsF a (cosI j)) (hb : IsF b (sinI j)) (k : Nat) (hk : k < 4) :
    ∃ re im, (∀ (t : TypeId) (W : World), (binOp .mul t (.complex .f64 a b) (.complex .f64 (uRe k) (uIm k))).run Try.prog W = .ok (.complex .f64 re im) W) ∧ IsF re (cosI ((j + k) % 4)) ∧ IsF im (sinI ((j + k) % 4)) := by
  have hc := cos_sin j
  have hd := cos_sin k
  obtain ⟨re, im, h1, h2, h3⟩ := cmul_run ha hb (isF_uRe k hk) (isF_uIm k hk) (by unfold big; rcases hc.1 with h | h | h <;> rcases hd.1 with h' | h' | h' <;> rw [h, h'] <;> decide)
    (by unfold big; rcases hc.2 with h | h | h <;> rcases hd.2 with h' | h' | h' <;> rw [h, h'] <;> decide)
    (by unfold big; rw [(cos_add j k hj hk).1]; rcases (cos_sin ((j + k) % 4)).1 with h | h | h <;> rw [h] <;> decide)
    (by unfold big; rcases hc.1 with h | h | h <;> rcases hd.2 with h' | h' | h' <;> rw [h, h'] <;> decide)
    (by unfold big; rcases hc.2 with h | h | h <;> rcases hd.1 with h' | h' | h' <;> rw [h, h'] <;> decide)
    (by unfold big; rw [(cos_add j k hj hk).2]; rcases (cos_sin ((j + k) % 4)).2 with h | h | h <;> rw [h] <;> decide)
  rw [(cos_add j k hj hk).1] at h2
  rw [(cos_add j k hj hk).2] at h3
  exact ⟨re, im, h1, h2, h3⟩
/-- A step onwards. -/
theorem go_run {a b : Nat} {j : Nat} (ha : IsF a (cosI j)) (hb : IsF b (sinI j)) (c : Int) (h0 : 0 ≤ c) (hc : c < 256) :
    ∃ re im, (∀ (t : TypeId) (W : World), (binOp .mul t (.complex .f64 a b) (.complex .f64 (FloatKind.f64.nearest c) 0)).run Try.prog W = .ok (.complex .f64 re im) W) ∧ IsF re (c * cosI j) ∧ IsF im (c * sinI j) := by
  have hd := cos_sin j
  obtain ⟨re, im, h1, h2, h3⟩ := cmul_run ha hb (IsF.ofInt (n := c) (by unfold big; omega)) isF_zero (by unfold big; rcases hd.1 with h | h | h <;> rw [h] <;> omega) (by unfold big; rw [Int.mul_zero]; decide)
    (by unfold big; rcases hd.1 with h | h | h <;> rw [h] <;> omega) (by unfold big; rw [Int.mul_zero]; decide) (by unfold big; rcases hd.2 with h | h | h <;> rw [h] <;> omega) (by unfold big; rcases hd.2 with h | h | h <;> rw [h] <;> omega)
  refine ⟨re, im, h1, ?_, ?_⟩
  · rw [Int.mul_zero, Int.sub_zero, Int.mul_comm] at h2; exact h2
  · rw [Int.mul_zero, Int.zero_add, Int.mul_comm] at h3; exact h3
theorem and_255 (n : Int) : bits .and .i64 n 255 = n % 256 := by
  show IntKind.i64.wrap ((BitVec.ofInt 64 n &&& BitVec.ofInt 64 255).toNat : Int) = _
  rw [BitVec.toNat_and, show (BitVec.ofInt 64 255).toNat = 2 ^ 8 - 1 from rfl, Nat.and_two_pow_sub_one_eq_mod, BitVec.toNat_ofInt, wrapi64]
  unfold wrap64; omega
theorem and_3 (n : Int) : bits .and .i64 n 3 = n % 4 := by
  show IntKind.i64.wrap ((BitVec.ofInt 64 n &&& BitVec.ofInt 64 3).toNat : Int) = _
  rw [BitVec.toNat_and, show (BitVec.ofInt 64 3).toNat = 2 ^ 2 - 1 from rfl, Nat.and_two_pow_sub_one_eq_mod, BitVec.toNat_ofInt, wrapi64]
  unfold wrap64; omega
theorem cell_of_blk {w : World} {g : Nat} {cs : Array Value} {t : TypeId} (h : w.heap[g]? = some (.cells cs t (0, 0))) (i : Nat) : w.cell? ⟨g, i, none⟩ = cs[i]? ∧ w.frozen? ⟨g, i, none⟩ = false :=
  ⟨cell_of_row w g i cs t (0, 0) h, by simp [World.frozen?, h]⟩
theorem blk_set {w : World} {g : Nat} {cs : Array Value} {t : TypeId} (h : w.heap[g]? = some (.cells cs t (0, 0))) (i : Nat) (u : Value) : (w.setCell ⟨g, i, none⟩ u).heap[g]? = some (.cells (cs.setIfInBounds i u) t (0, 0)) := by
  simp [World.setCell, Array.getElem?_modify, h]
theorem walk_Of (A : Option Addr) (c : Nat) (xs : List Ev) (w : World) (hA : EvSl w w.heap.size A xs) (hn : xs.length ≤ 17592186044416) :
    Calls Try.prog 49 #[.slice A xs.length c] w fun e w' => e = .returned (wkVal (wkOf xs)) ∧ Below w.heap.size w w' := by
  have c1 := intToFloat_run Try.underlying3 Try.underlying56
  have b1 := and_255
  have b2 := and_3
  have b3 := and_ones
  have HA := Lib.hid hA
  clear hA
  go_enter Try.func49, Try.ntmps49
  go_wp2_with (go_at_call 70; refine (walk_unit 0 (by omega) _).mono ?_; rintro e w' ⟨rfl, rfl⟩)
  generalize hW : w.alloc (Obj.cells #[Value.int IntKind.i64 0, Value.int IntKind.i64 0, Value.int IntKind.i64 0] 30) = W1
  have HW := Lib.hid hW
  clear hW
  go_loopw [3, 4, 10] (fun p l i wr => ∃ k : Nat, k ≤ xs.length ∧ i = .int .i64 k ∧ Below (w.heap.size + 1) W1 wr ∧ ∃ pr pi lr li : Nat, p = .complex .f64 pr pi ∧ l = .complex .f64 lr li ∧ IsF pr (wkOf (xs.take k)).re ∧ IsF pi (wkOf (xs.take k)).im ∧ IsF lr (cosI (wkOf (xs.take k)).t) ∧ IsF li (sinI (wkOf (xs.take k)).t)) (fun _ _ i _ => xs.length - (intOf i).toNat)
  case atStart => exact ⟨0, Nat.zero_le _, rfl, Below.refl _ _, _, _, _, _, rfl, rfl, isF_zero, isF_zero, isF_one, isF_zero⟩
  case round =>
    obtain ⟨k, hk, rfl, hB, pr, pi, lr, li, rfl, rfl, f1, f2, f3, f4⟩ := hrel
    have hW1 : Below w.heap.size w W1 := by rw [← HW.out]; exact (Below.refl _ _).alloc (Nat.le_refl _) _
    have hBw : Below w.heap.size w wr := hW1.trans (hB.mono (by omega))
    have hsz : W1.heap.size = w.heap.size + 1 := by rw [← HW.out]; simp
    have hr0 : ∀ j, j < 3 → wr.heap[w.heap.size]? = some (.cells #[.int .i64 0, .int .i64 0, .int .i64 0] 30 (0, 0)) := fun j _ => by rw [hB.block _ (by omega), ← HW.out]; exact heap_alloc_new w _
    have inv := wkOf_inv (xs.take k)
    by_cases hlt : k < xs.length
    · have hs := wkOf_take_succ xs k hlt
      have hne : xs ≠ [] := by intro e; rw [e] at hlt; simp at hlt
      obtain ⟨b, off, rfl, hlt', hcell⟩ := HA.out hne
      obtain ⟨h0, h1, h2, h3⟩ := hcell k hlt
      rw [← hBw.cell hlt'] at h0 h1 h2 h3
      have hlen : (xs.take k).length ≤ 17592186044416 := by rw [List.length_take]; omega
      generalize xs.getD k evNone = ev at *
      generalize wkOf (xs.take k) = st at *
      have hT := evT_lt ev
      have hC := evC_lt ev
      obtain ⟨r1, i1, g1, f5, f6⟩ := go_run f3 f4 (evC ev) hC.1 hC.2
      obtain ⟨r2, i2, g2, f7, f8⟩ := turn_run inv.1 f3 f4 (evT ev) hT
      have hcs := cos_sin st.t
      obtain ⟨r3, i3, g3, f9, f10⟩ := csum_run f1 f2 f5 f6 (by unfold big; rcases hcs.1 with h | h | h <;> rw [h] <;> omega) (by unfold big; rcases hcs.2 with h | h | h <;> rw [h] <;> omega)
      have hq : wrap64 (ev.pc % 4294967296 / 2 + ev.kind) % 4 = ((evT ev : Nat) : Int) := by unfold evT wrap64; omega
      have F7 := Lib.hid f7
      have F8 := Lib.hid f8
      have F9 := Lib.hid f9
      have F10 := Lib.hid f10
      have HS := Lib.hid hs
      have HB := Lib.hid hB
      have HBw := Lib.hid hBw
      have hge : w.heap.size + 1 ≤ wr.heap.size := by rw [← hsz]; exact hB.size
      unfold evC at g1
      clear f1 f2 f3 f4 f5 f6 f7 f8 f9 f10 hs hB hBw hW1 hsz hr0 inv hcs hC hcell
      go_wp2_with (go_at_call 70; refine (walk_unit (evT ev) hT _).mono ?_; rintro e w' ⟨rfl, rfl⟩)
      go_roundw
      case rel => exact ⟨k + 1, by omega, by go_num, HB.out.alloc hge _, _, _, _, _, rfl, rfl, by rw [HS.out]; exact F9.out, by rw [HS.out]; exact F10.out, by rw [HS.out]; exact F7.out, by rw [HS.out]; exact F8.out⟩
      case measure => simp [intOf]; omega
    · obtain rfl : k = xs.length := by omega
      rw [List.take_length] at f1 f2 f3 f4 inv
      have hb1 : (wkOf xs).re.natAbs < big := by unfold big; omega
      have hb2 : (wkOf xs).im.natAbs < big := by unfold big; omega
      have hr := hr0 0 (by omega)
      have hge : w.heap.size < wr.heap.size := by have := hB.size; omega
      have HBw := Lib.hid hBw
      have F1 := Lib.hid f1
      have F2 := Lib.hid f2
      have F3 := Lib.hid f3
      have F4 := Lib.hid f4
      have HI := Lib.hid inv
      have Hb1 := Lib.hid hb1
      have Hb2 := Lib.hid hb2
      clear hB hBw hW1 hsz f1 f2 f3 f4 inv hb1 hb2 hr0
      go_wp2_with (go_at_call 71; refine (walk_at _ _ _ _ _ _ _ HI.out.1 F1.out F2.out F3.out F4.out Hb1.out Hb2.out _).mono ?_; rintro e w2 ⟨rfl, hb⟩; have hr2 := (hb.block _ hge).trans hr; have q0 := (cell_of_blk hr2 0).1; have z0 := (cell_of_blk hr2 0).2; have q1 := (cell_of_blk hr2 1).1; have z1 := (cell_of_blk hr2 1).2; have q2 := (cell_of_blk hr2 2).1; have z2 := (cell_of_blk hr2 2).2; have HR := Lib.hid hr2; clear hr2 hr; simp only [List.getElem?_toArray, List.getElem?_cons_zero, List.getElem?_cons_succ] at q0 q1 q2)
      have hfin : Below w.heap.size w (((w2.setCell ⟨w.heap.size, 0, none⟩ (.int .i64 (wkOf xs).re)).setCell ⟨w.heap.size, 1, none⟩ (.int .i64 (wkOf xs).im)).setCell ⟨w.heap.size, 2, none⟩ (.int .i64 ((wkOf xs).t : Int))) :=
        (((HBw.out.trans (hb.mono (by omega))).setCell (Nat.le_refl _) _).setCell (Nat.le_refl _) _).setCell (Nat.le_refl _) _
      have hblk := blk_set (blk_set (blk_set HR.out 0 (.int .i64 (wkOf xs).re)) 1 (.int .i64 (wkOf xs).im)) 2 (.int .i64 ((wkOf xs).t : Int))
      generalize ((w2.setCell ⟨w.heap.size, 0, none⟩ (.int .i64 (wkOf xs).re)).setCell ⟨w.heap.size, 1, none⟩ (.int .i64 (wkOf xs).im)).setCell ⟨w.heap.size, 2, none⟩ (.int .i64 ((wkOf xs).t : Int)) = W3 at *
      have r0 : W3.cell? ⟨w.heap.size, 0, none⟩ = some (.int .i64 (wkOf xs).re) := (cell_of_blk hblk 0).1
      have r1 : W3.cell? ⟨w.heap.size, 1, none⟩ = some (.int .i64 (wkOf xs).im) := (cell_of_blk hblk 1).1
      have r2 : W3.cell? ⟨w.heap.size, 2, none⟩ = some (.int .i64 ((wkOf xs).t : Int)) := (cell_of_blk hblk 2).1
      exact bodyPost_ret (v := wkVal (wkOf xs)) (by simp [results, Try.results49, go_sem, r0, r1, r2, wkVal]) rfl ⟨rfl, hfin⟩
end Go.Proofs.Ytgkaempkapnfcaa
