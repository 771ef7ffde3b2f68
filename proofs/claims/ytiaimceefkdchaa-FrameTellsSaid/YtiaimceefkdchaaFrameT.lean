/- Contracts of hauberkref26.Same (of frames that read the same) and frame.Sizes. No condition but those that each theorem names. -/
import Derived.Test.YtiaimceefkdchaaFrameL
import Derived.Deep.QuietTactic
import Derived.Deep.DeepCutAuto
namespace Go.Proofs.Ytiaimceefkdchaa
open Go.RowKit
/-- A row of numbers in a block of its own. -/
def IntsAt (w : World) (A : Option Addr) (ls : List Int) : Prop := ∀ k, k < ls.length → ∃ g, A = some ⟨g, 0, none⟩ ∧ g < w.heap.size ∧ w.cell? ⟨g, k, none⟩ = some (.int .i64 (ls.getD k 0))
theorem IntsAt.below {w w' : World} {A : Option Addr} {ls : List Int} (h : IntsAt w A ls) (hb : Below w.heap.size w w') : IntsAt w' A ls := fun k hk => by
  obtain ⟨g, h1, h2, h3⟩ := h k hk
  exact ⟨g, h1, Nat.lt_of_lt_of_le h2 hb.size, (hb.cell (p := ⟨g, k, none⟩) h2).trans h3⟩
theorem ints_own {w : World} {B c : Nat} {A : Option Addr} {ls : List Int} (h : w.ownsRow B 3 1 (.slice A ls.length c) ls.length (ls.map (.int .i64 ·))) : IntsAt w A ls := fun k hk => by
  obtain ⟨n, hn⟩ : ∃ n, ls.length = n + 1 := ⟨ls.length - 1, by omega⟩
  obtain ⟨g, cv, hform⟩ : ∃ g c', Value.slice A ls.length c = .slice (some ⟨g, 0, none⟩) ls.length c' := by
    have h2 := h
    rw [hn] at h2 ⊢
    exact own_form h2
  injection hform with h1 _ h3
  subst h1 h3
  have hc := h.cellAt k (by omega)
  rw [List.getElem?_map, List.getElem?_eq_getElem hk] at hc
  refine ⟨g, rfl, (h.lt g rfl).2, ?_⟩
  rw [hc, List.getD_eq_getElem?_getD, List.getElem?_eq_getElem hk]
  rfl
set_option maxHeartbeats 4000000 in
set_option maxRecDepth 100000 in
theorem ref26_Same (im sz : Int) (ls : List Int) (A B : Option Addr) (ca cb : Nat) (w : World) (hA : IntsAt w A ls) (hB : IntsAt w B ls) (hn : ls.length ≤ 2000000) :
    Calls Try.prog 24 #[.agg #[.int .i64 im, .slice A ls.length ca, .int .i64 sz], .agg #[.int .i64 im, .slice B ls.length cb, .int .i64 sz]] w fun e w' => e = .returned (.bool true) ∧ Below w.heap.size w w' := by
  have HA := Lib.hid hA
  have HB := Lib.hid hB
  have q0 : (im != im) = false := by simp
  have q1 : (sz != sz) = false := by simp
  have q2 : ((ls.length : Int) != (ls.length : Int)) = false := by simp
  have hx0 : ((w.alloc (.cells #[.int .i64 im, .slice A ls.length ca, .int .i64 sz] 28)).alloc (.cells #[.int .i64 im, .slice B ls.length cb, .int .i64 sz] 28)).heap[w.heap.size]? = some (.cells #[.int .i64 im, .slice A ls.length ca, .int .i64 sz] 28 (0, 0)) := ((bnew (w.alloc _) _).block _ (by simp)).trans (heap_alloc_new w _)
  have hx1 := alloc_new2 w (.cells #[.int .i64 im, .slice A ls.length ca, .int .i64 sz] 28) (.cells #[.int .i64 im, .slice B ls.length cb, .int .i64 sz] 28)
  have hb1 := bal (bnew w (.cells #[.int .i64 im, .slice A ls.length ca, .int .i64 sz] 28)) (.cells #[.int .i64 im, .slice B ls.length cb, .int .i64 sz] 28)
  clear hA hB
  go_enter Try.func24, Try.ntmps24
  go_upto_region 1 with (fail)
  generalize (w.alloc (.cells #[.int .i64 im, .slice A ls.length ca, .int .i64 sz] 28)).alloc (.cells #[.int .i64 im, .slice B ls.length cb, .int .i64 sz] 28) = w1 at *
  have a0 : w1.cell? ⟨w.heap.size, 0, none⟩ = some (.int .i64 im) := (cell_of_blk hx0 0).1
  have a1 : w1.cell? ⟨w.heap.size, 1, none⟩ = some (.slice A ls.length ca) := (cell_of_blk hx0 1).1
  have a2 : w1.cell? ⟨w.heap.size, 2, none⟩ = some (.int .i64 sz) := (cell_of_blk hx0 2).1
  have b0 : w1.cell? ⟨w.heap.size + 1, 0, none⟩ = some (.int .i64 im) := (cell_of_blk hx1 0).1
  have b1 : w1.cell? ⟨w.heap.size + 1, 1, none⟩ = some (.slice B ls.length cb) := (cell_of_blk hx1 1).1
  have b2 : w1.cell? ⟨w.heap.size + 1, 2, none⟩ = some (.int .i64 sz) := (cell_of_blk hx1 2).1
  have HX0 := Lib.hid hx0
  have HX1 := Lib.hid hx1
  have HB1 := Lib.hid hb1
  clear hx0 hx1 hb1
  go_wp2_with fail
  clear a0 a1 a2 b0 b1 b2
  go_loopw [5] (fun vi wr => ∃ k : Nat, k ≤ ls.length ∧ vi = .int .i64 k ∧ Below w1.heap.size w1 wr) (fun vi _ => ls.length - (intOf vi).toNat)
  case atStart => exact ⟨0, Nat.zero_le _, rfl, Below.refl _ _⟩
  case round =>
    obtain ⟨k, hk, rfl, hK⟩ := hrel
    have HK := Lib.hid hK
    have a1 : wr.cell? ⟨w.heap.size, 1, none⟩ = some (.slice A ls.length ca) := (cell_of_blk ((hK.block _ (lt_of_blk HX0.out)).trans HX0.out) 1).1
    have b1 : wr.cell? ⟨w.heap.size + 1, 1, none⟩ = some (.slice B ls.length cb) := (cell_of_blk ((hK.block _ (lt_of_blk HX1.out)).trans HX1.out) 1).1
    clear hK
    by_cases hlt : k < ls.length
    · obtain ⟨g, rfl, _, c1⟩ := (HA.out.below (bch HB1.out HK.out)) k hlt
      obtain ⟨h, rfl, _, c2⟩ := (HB.out.below (bch HB1.out HK.out)) k hlt
      generalize ls.getD k 0 = x at *
      have k0 : (0 : Int) ≤ (k : Int) := by omega
      have k1 : (k : Int) < (ls.length : Int) := by omega
      have q3 : (x != x) = false := by simp
      go_wp2_with fail
      go_quiet (fail)
      go_wp2_with fail
      go_roundw
      case rel => exact ⟨k + 1, by omega, by go_num, bdrawn HK.out _⟩
      case measure => simp [intOf]; omega
    · obtain rfl : k = ls.length := by omega
      go_wp2_with fail
      go_ret
      exact ⟨rfl, bch HB1.out HK.out⟩
theorem frame_Sizes (p : Ir) (av bv : Value) (im sz : Int) (A : Option Addr) (n c : Nat) (w : World) :
    Calls Try.prog 23 #[irVal p av bv, .agg #[.int .i64 im, .slice A n c, .int .i64 sz]] w fun e w' => e = .returned (.agg #[.int .i64 p.inp, .int .i64 p.out, .int .i64 sz]) ∧ Below w.heap.size w w' := by
  unfold irVal
  go_enter Try.func23, Try.ntmps23
  go_wp2_with fail
  have hb := bal (bal (bnew w (.cells #[.int .i64 p.temps, av, bv, .int .i64 p.inp, .int .i64 p.out] 25)) (.cells #[.int .i64 im, .slice A n c, .int .i64 sz] 28)) (.cells #[.int .i64 p.inp, .int .i64 p.out, .int .i64 sz] 41)
  refine bodyPost_ret (by simp [results, Try.results23, go_sem]; try rfl) rfl ?_
  exact ⟨rfl, hb⟩
theorem frLay_len (p : Ir) : (frLay p).arrays.length ≤ 2000000 := by
  unfold frLay
  split
  · rename_i h
    have hir : irErr p = 0 := by
      unfold frErr at h
      by_cases h2 : irErr p = 0
      · exact h2
      · rw [if_pos h2] at h; exact absurd h h2
    obtain ⟨hng, _⟩ := irErr_ok hir
    unfold greatP at hng
    show (frGo p p.arrays).1.length ≤ 2000000
    unfold frGo
    rw [frGo_len]
    show 0 + p.arrays.length ≤ 2000000
    omega
  · exact Nat.zero_le _
end Go.Proofs.Ytiaimceefkdchaa
