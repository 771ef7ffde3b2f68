/- Contract of a run's beginning (ir.start). No condition but those that the theorem names. -/
import Derived.Test.YtiaimceefkdchaaRunE
namespace Go.Proofs.Ytiaimceefkdchaa
open Go.RowKit
set_option linter.unusedVariables false
theorem run_index_at (s : ByteArray) (n : Nat) (z : Int) (hz : z = (n : Int)) (h : n < s.size) (W : World) : (Instr.index 9 (.string s) (.int .i64 z)).run Try.prog W = .ok (.int .u8 ((s.data.toList.getD n 0).toNat : Int)) W := by
  subst hz
  rw [run_index_string W 9 s .i64 (n : Int) Try.underlying9, dif_pos ⟨by omega, by omega⟩]
  have e : s[((n : Nat) : Int).toNat]'(by simpa using h) = s.data.toList.getD n 0 := by
    have hl : n < s.data.toList.length := by simpa using h
    rw [List.getD_eq_getElem?_getD, List.getElem?_eq_getElem hl]
    rfl
  rw [e]
def StPost (p : Ir) (av bv : Value) (input : ByteArray) (w : World) (e : Ending) (w' : World) : Prop :=
  ∃ M gt gs aav, e = .returned (.pointer (some ⟨M, 0, none⟩)) ∧ RunAt w' w.heap.size M gt gs aav p av bv (startP p input) ∧ Below w.heap.size w w'
set_option maxRecDepth 100000 in
set_option maxHeartbeats 8000000 in
theorem run_start (p : Ir) (AA : Option Addr) (ac : Nat) (bv : Value) (he : irErr p = 0) (input : ByteArray) (hin : (input.size : Int) = p.inp) (w : World) (hI : IrRep w w.heap.size p (.slice AA p.arrays.length ac) bv) :
    Calls Try.prog 73 #[irVal p (.slice AA p.arrays.length ac) bv, .string input] w (StPost p (.slice AA p.arrays.length ac) bv input w) := by
  obtain ⟨hng, hm⟩ := irErr_ok he
  obtain ⟨⟨⟨hi0, hi1, _⟩, ⟨ho0, ho1, _⟩, hT0, _⟩, hae, _⟩ := hm
  have HALL := Lib.hid (arrEnd_all p.inp p.out p.arrays 0 hae)
  have HIN := Lib.hid (arrEnd_in p.inp p.out p.arrays 0 hae)
  unfold greatP at hng
  obtain ⟨T, hT⟩ : ∃ T : Nat, p.temps = (T : Int) := ⟨p.temps.toNat, by omega⟩
  have hT1 : T ≤ 1048576 := by have := railSum_nonneg p.arrays; omega
  have hn1 : p.arrays.length ≤ 1048576 := by have := railSum_nonneg p.arrays; omega
  have HRA := Lib.hid hI.1
  have hsz : input.size ≤ 65536 := by omega
  have hmk := run_make_ints T (by omega)
  have HINP := Lib.hid hin
  have HT := Lib.hid hT
  unfold irVal
  rw [hT]
  have hSt : startP p input = ⟨List.replicate T 0, p.arrays.map (arrStart input)⟩ := by unfold startP; rw [hT]; rfl
  unfold StPost
  rw [hSt]
  have hb1 := bnew w (.cells #[.int .i64 (T : Int), .slice AA p.arrays.length ac, bv, .int .i64 p.inp, .int .i64 p.out] 25)
  have hx1 := heap_alloc_new w (.cells #[.int .i64 (T : Int), .slice AA p.arrays.length ac, bv, .int .i64 p.inp, .int .i64 p.out] 25)
  have hz1 : (w.alloc (.cells #[.int .i64 (T : Int), .slice AA p.arrays.length ac, bv, .int .i64 p.inp, .int .i64 p.out] 25)).heap.size = w.heap.size + 1 := by simp
  clear hng hae hI hin hi0 hi1 ho0 ho1 he hT0 hT hSt
  go_enter Try.func73, Try.ntmps73
  go_wp2_with fail
  generalize w.alloc (.cells #[.int .i64 (T : Int), .slice AA p.arrays.length ac, bv, .int .i64 p.inp, .int .i64 p.out] 25) = w1 at *
  have HS : Hid (∀ w', Below w1.heap.size w1 w' → (w'.cell? ⟨w.heap.size, 0, none⟩ = some (.int .i64 (T : Int)) ∧ w'.cell? ⟨w.heap.size, 1, none⟩ = some (.slice AA p.arrays.length ac) ∧ w'.cell? ⟨w.heap.size, 2, none⟩ = some bv ∧ w'.cell? ⟨w.heap.size, 3, none⟩ = some (.int .i64 p.inp) ∧ w'.cell? ⟨w.heap.size, 4, none⟩ = some (.int .i64 p.out) ∧ Below w1.heap.size w1 w')) := Lib.hid (fun w' hg => by
    have hx := (hg.block w.heap.size (by omega)).trans hx1
    exact ⟨(cell_of_blk hx 0).1, (cell_of_blk hx 1).1, (cell_of_blk hx 2).1, (cell_of_blk hx 3).1, (cell_of_blk hx 4).1, hg⟩)
  have hw0 := Below.refl w1.heap.size w1
  have HX1 := Lib.hid hx1
  have HB1 := Lib.hid hb1
  have HZ1 := Lib.hid hz1
  clear hx1 hb1
  go_region_held3 (fun w' => w'.cell? ⟨w.heap.size, 0, none⟩ = some (.int .i64 (T : Int)) ∧ w'.cell? ⟨w.heap.size, 1, none⟩ = some (.slice AA p.arrays.length ac) ∧ w'.cell? ⟨w.heap.size, 2, none⟩ = some bv ∧ w'.cell? ⟨w.heap.size, 3, none⟩ = some (.int .i64 p.inp) ∧ w'.cell? ⟨w.heap.size, 4, none⟩ = some (.int .i64 p.out) ∧ Below w1.heap.size w1 w')
    (exact HS.out _ (by first | assumption | exact Below.drew (by assumption) | exact Below.drew (bal (by assumption) _) | exact Below.drew (bal (bal (by assumption) _) _))) (fail)
  have hRun : RunAt (((w1.alloc (.cells (ints (List.replicate T 0)) 3)).alloc (.cells #[.int .i64 (T : Int), .slice AA p.arrays.length ac, bv, .int .i64 p.inp, .int .i64 p.out, .slice (some ⟨w.heap.size + 1, 0, none⟩) T T, .slice none 0 0] 124)).drew) w.heap.size (w.heap.size + 1 + 1) (w.heap.size + 1) [] (.slice none 0 0) p (.slice AA p.arrays.length ac) bv ⟨List.replicate T 0, []⟩ := by
    have e1 := heap_alloc_new (w1.alloc (.cells (ints (List.replicate T 0)) 3)) (.cells #[.int .i64 (T : Int), .slice AA p.arrays.length ac, bv, .int .i64 p.inp, .int .i64 p.out, .slice (some ⟨w.heap.size + 1, 0, none⟩) T T, .slice none 0 0] 124)
    have e2 := ((bnew (w1.alloc (.cells (ints (List.replicate T 0)) 3)) (.cells #[.int .i64 (T : Int), .slice AA p.arrays.length ac, bv, .int .i64 p.inp, .int .i64 p.out, .slice (some ⟨w.heap.size + 1, 0, none⟩) T T, .slice none 0 0] 124)).block w1.heap.size (by simp)).trans (heap_alloc_new w1 _)
    have e3 : (w1.alloc (.cells (ints (List.replicate T 0)) 3)).heap.size = w.heap.size + 1 + 1 := by rw [← HZ1.out]; simp
    rw [e3] at e1
    rw [HZ1.out] at e2
    refine ⟨?_, e2, World.ownsRow_nil _ _ _ _, fun i hi => by simp at hi, rfl, by omega, by omega, by simp, by omega, by simp, by simp, by intro r hr; cases hr⟩
    rw [show rnCells p (.slice AA p.arrays.length ac) bv (w.heap.size + 1) (St.mk (List.replicate T 0) []).ts.length (.slice none 0 0) = #[.int .i64 (T : Int), .slice AA p.arrays.length ac, bv, .int .i64 p.inp, .int .i64 p.out, .slice (some ⟨w.heap.size + 1, 0, none⟩) T T, .slice none 0 0] by unfold rnCells iSl; rw [HT.out]; simp]
    exact e1
  have HRun := Lib.hid hRun
  have hB4 : Below w.heap.size w (((w1.alloc (.cells (ints (List.replicate T 0)) 3)).alloc (.cells #[.int .i64 (T : Int), .slice AA p.arrays.length ac, bv, .int .i64 p.inp, .int .i64 p.out, .slice (some ⟨w.heap.size + 1, 0, none⟩) T T, .slice none 0 0] 124)).drew) := Below.drew (bal (bal HB1.out _) _)
  have HB4 := Lib.hid hB4
  have hx4 := (HS.out _ (Below.drew (bal (bal hw0 _) _) : Below w1.heap.size w1 (((w1.alloc (.cells (ints (List.replicate T 0)) 3)).alloc (.cells #[.int .i64 (T : Int), .slice AA p.arrays.length ac, bv, .int .i64 p.inp, .int .i64 p.out, .slice (some ⟨w.heap.size + 1, 0, none⟩) T T, .slice none 0 0] 124)).drew))).2.1
  clear hRun hB4
  generalize ((w1.alloc (.cells (ints (List.replicate T 0)) 3)).alloc (.cells #[.int .i64 (T : Int), .slice AA p.arrays.length ac, bv, .int .i64 p.inp, .int .i64 p.out, .slice (some ⟨w.heap.size + 1, 0, none⟩) T T, .slice none 0 0] 124)).drew = w4 at *
  clear hmk hw0
  go_wp2_with fail
  clear hx4
  go_loopw [20] (fun j wr => ∃ k : Nat, k ≤ p.arrays.length ∧ j = .int .i64 k ∧ ∃ gs aav, gs.length = k ∧ RunAt wr w.heap.size (w.heap.size + 1 + 1) (w.heap.size + 1) gs aav p (.slice AA p.arrays.length ac) bv ⟨List.replicate T 0, (p.arrays.take k).map (arrStart input)⟩ ∧ Below w.heap.size w wr) (fun j _ => p.arrays.length - (intOf j).toNat)
  case atStart => exact ⟨0, by omega, rfl, [], .slice none 0 0, rfl, HRun.out, HB4.out⟩
  case round =>
    obtain ⟨k, hk, rfl, gs, aav, hgl, hR, hBB⟩ := hrel
    have HR := Lib.hid hR
    have HBB := Lib.hid hBB
    by_cases hlt : k < p.arrays.length
    · obtain ⟨b, off, rfl, hb0, x0, x1, x2, x3⟩ := arr_at (HRA.out.below hBB (Nat.le_refl _)) k hlt
      have HTK : Hid ((p.arrays.take (k + 1)).map (arrStart input) = (p.arrays.take k).map (arrStart input) ++ [arrStart input (p.arrays.getD k arrNone)]) := Lib.hid (by rw [take_succ_getD p.arrays k arrNone hlt, List.map_append]; rfl)
      obtain ⟨hsh, hkk⟩ := HALL.out _ (getD_memI p.arrays k arrNone hlt)
      have hinn := HIN.out _ (getD_memI p.arrays k arrNone hlt)
      have hM := lt_of_blk hR.blk
      have hgt := lt_of_blk hR.tmp
      have HGN : Hid (wr.heap.size + 1 ∉ gs) := Lib.hid (fun hm => by
        obtain ⟨i, hi, hie⟩ := List.getElem_of_mem hm
        have := lt_of_blk (hR.mem i hi)
        rw [List.getD_eq_getElem?_getD, List.getElem?_eq_getElem hi] at this
        simp at this
        omega)
      have HGR : Hid (aav.ownBlock ≠ some (wr.heap.size + 1)) := Lib.hid (fun e => by have := (hR.row.lt _ e).2; omega)
      generalize p.arrays.getD k arrNone = ar at *
      obtain ⟨el, ln, ak, o⟩ := ar
      simp only at x0 x1 x2 x3 hinn
      obtain ⟨h2, h3, h4⟩ := hsh
      simp only at h2 h3 h4
      obtain ⟨L, rfl⟩ : ∃ L : Nat, ln = (L : Int) := ⟨ln.toNat, by omega⟩
      have hmk := run_make_ints L (by omega)
      have k0 : (0 : Int) ≤ (k : Int) := by omega
      have k1 : (k : Int) < (p.arrays.length : Int) := by omega
      have hz5 : ((wr.alloc (.cells #[.int .i64 el, .int .i64 (L : Int), .int .i64 ak, .int .i64 o] 36)).alloc (.cells (ints (List.replicate L 0)) 3)).heap.size = wr.heap.size + 1 + 1 := by simp
      have hA5 := ((bnew (wr.alloc (.cells #[.int .i64 el, .int .i64 (L : Int), .int .i64 ak, .int .i64 o] 36)) (.cells (ints (List.replicate L 0)) 3)).block wr.heap.size (by simp)).trans (heap_alloc_new wr _)
      have hG5 := alloc_new2 wr (.cells #[.int .i64 el, .int .i64 (L : Int), .int .i64 ak, .int .i64 o] 36) (.cells (ints (List.replicate L 0)) 3)
      have hB5 := bal (bnew wr (.cells #[.int .i64 el, .int .i64 (L : Int), .int .i64 ak, .int .i64 o] 36)) (.cells (ints (List.replicate L 0)) 3)
      have HR5 := Lib.hid (HR.out.below hB5)
      have HBQ := Lib.hid hB5
      have HB5 := Lib.hid (HBB.out.trans (hB5.mono HBB.out.size))
      have HA5 := Lib.hid hA5
      have HG5 := Lib.hid hG5
      have HZ5 := Lib.hid hz5
      clear hR hBB hA5 hG5 hB5 hz5
      go_wp2_with fail
      generalize (wr.alloc (.cells #[.int .i64 el, .int .i64 (L : Int), .int .i64 ak, .int .i64 o] 36)).alloc (.cells (ints (List.replicate L 0)) 3) = w5 at *
      clear hmk x0 x1 x2 x3
      obtain ⟨wq, rfl⟩ : ∃ wq : World, wq = wr := ⟨_, rfl⟩
      have a0 : w5.cell? ⟨wq.heap.size, 0, none⟩ = some (.int .i64 el) := (cell_of_blk HA5.out 0).1
      have a2 : w5.cell? ⟨wq.heap.size, 2, none⟩ = some (.int .i64 ak) := (cell_of_blk HA5.out 2).1
      have a3 : w5.cell? ⟨wq.heap.size, 3, none⟩ = some (.int .i64 o) := (cell_of_blk HA5.out 3).1
      by_cases hk1 : ak = 1
      · subst hk1
        obtain ⟨hi0, hi1⟩ := hinn rfl
        obtain ⟨O, rfl⟩ : ∃ O : Nat, o = (O : Int) := ⟨o.toNat, by omega⟩
        rcases h2 with rfl | rfl
        · have HLST : Hid (arrStart input ⟨1, L, 1, O⟩ = (List.range L).map (inAt input ⟨1, L, 1, O⟩)) := Lib.hid (by unfold arrStart; rw [if_pos rfl]; simp)
          rw [HLST.out] at HTK
          have HF : Hid (∀ i, inAt input ⟨1, L, 1, O⟩ i = ((input.data.toList.getD (O + i) 0).toNat : Int)) := Lib.hid (fun i => by unfold inAt; rw [if_neg (by simp)]; simp)
          generalize inAt input ⟨1, L, 1, O⟩ = f at *
          have hOs : (O : Int) + (L : Int) ≤ (input.size : Int) := by rw [HINP.out]; omega
          clear a0 a2 a3 hinn hi0 hi1
          go_loopw [29] (fun vi wr => ∃ i : Nat, i ≤ L ∧ vi = .int .i64 i ∧ Below (wq.heap.size + 1) w5 wr ∧ wr.heap[wq.heap.size + 1]? = some (.cells (ints ((List.range i).map f ++ List.replicate (L - i) 0)) 3 (0, 0))) (fun vi _ => L - (intOf vi).toNat)
          case atStart => exact ⟨0, by omega, rfl, Below.refl _ _, HG5.out⟩
          case round =>
            obtain ⟨i, hi, rfl, hIB, hIG⟩ := hrel
            have HIB := Lib.hid hIB
            have HIG := Lib.hid hIG
            by_cases hil : i < L
            · have hx := (hIB.block wq.heap.size (by omega)).trans HA5.out
              have a0 : wr.cell? ⟨wq.heap.size, 0, none⟩ = some (.int .i64 1) := (cell_of_blk hx 0).1
              have a2 : wr.cell? ⟨wq.heap.size, 2, none⟩ = some (.int .i64 1) := (cell_of_blk hx 2).1
              have a3 : wr.cell? ⟨wq.heap.size, 3, none⟩ = some (.int .i64 (O : Int)) := (cell_of_blk hx 3).1
              have hlen : ((List.range i).map f ++ List.replicate (L - i) 0).length = L := by simp; omega
              have c0 := (cell_of_blk hIG i).1.trans (ints_get _ i (by omega))
              have c1 := (cell_of_blk hIG i).2
              have HST : Hid ((wr.setCell ⟨wq.heap.size + 1, i, none⟩ (.int .i64 (f i))).heap[wq.heap.size + 1]? = some (.cells (ints ((List.range (i + 1)).map f ++ List.replicate (L - (i + 1)) 0)) 3 (0, 0))) := Lib.hid (by rw [blk_set hIG i, ints_set, fill_step f L i hil])
              have HSB := Lib.hid (hIB.setCell (p := ⟨wq.heap.size + 1, i, none⟩) (Nat.le_refl _) (.int .i64 (f i)))
              have i0 : (0 : Int) ≤ (i : Int) := by omega
              have i1 : (i : Int) < (L : Int) := by omega
              have i2 : (i : Int) ≤ 16384 := by omega
              have o2 : (O : Int) ≤ 65536 := by omega
              generalize ((List.range i).map f ++ List.replicate (L - i) 0).getD i 0 = old at *
              have hix : ∀ W, (Instr.index 9 (.string input) (.int .i64 ((O : Int) + (i : Int)))).run Try.prog W = .ok (.int .u8 (f i)) W := by
                intro W
                rw [run_index_at input (O + i) ((O : Int) + (i : Int)) (by omega) (by omega) W, HF.out]
              have hfr : 0 ≤ f i ∧ f i < 256 := by rw [HF.out]; have := (input.data.toList.getD (O + i) 0).toNat_lt; omega
              obtain ⟨hf0, hf1⟩ := hfr
              generalize f i = fi at *
              clear hx hIB hIG hlen
              go_wp2_with fail
              go_roundw
              case rel => exact ⟨i + 1, by omega, by go_num, HSB.out, HST.out⟩
              case measure => simp [intOf]; omega
            · obtain rfl : i = L := by omega
              rw [Nat.sub_self, show List.replicate 0 (0 : Int) = [] from rfl, List.append_nil] at hIG
              have HIG2 := Lib.hid hIG
              have m6 : wr.cell? ⟨w.heap.size + 1 + 1, 6, none⟩ = some aav := (cell_of_blk (HR.out.below (HBQ.out.trans (HIB.out.mono (by omega)))).blk 6).1
              obtain ⟨v', w6, hrun, g1, g2, g3, g4, A6, c6, rfl⟩ := RunAt.push (HR.out.below (HBQ.out.trans (HIB.out.mono (by omega)))) (by have := HBB.out.size; have := (HBB.out.trans ((HBQ.out.trans (HIB.out.mono (show wq.heap.size ≤ wq.heap.size + 1 by omega))).mono HBB.out.size)).size; omega) HIG2.out (by have := HBB.out.size; omega) (by omega) (by omega) HGN.out HGR.out (by omega)
              rw [hgl] at hrun g3 g4
              simp only [iSl, List.length_map, List.length_range] at hrun
              have HRUN := Lib.hid hrun
              have G3 := Lib.hid g3
              have G4 := Lib.hid (g4 (HBB.out.trans ((HBQ.out.trans (HIB.out.mono (show wq.heap.size ≤ wq.heap.size + 1 by omega))).mono HBB.out.size)) (Nat.le_refl _))
              clear hrun g3 g4
              go_wp2_with (at_builtin; refine wpList_app rfl (.tmp 69) (.tmp 71) 122 rfl HRUN.out rfl rfl ?_)
              go_roundw
              case rel => exact ⟨k + 1, by omega, by go_num, gs ++ [wq.heap.size + 1], _, by simp [hgl], by rw [HTK.out]; exact G3.out, G4.out⟩
              case measure => simp [intOf]; omega
        · have HLST : Hid (arrStart input ⟨4, L, 1, O⟩ = (List.range L).map (inAt input ⟨4, L, 1, O⟩)) := Lib.hid (by unfold arrStart; rw [if_pos rfl]; simp)
          rw [HLST.out] at HTK
          have HF : Hid (∀ i, inAt input ⟨4, L, 1, O⟩ i = ((le4 (input.data.toList.getD (O + 4 * i) 0) (input.data.toList.getD (O + 4 * i + 1) 0) (input.data.toList.getD (O + 4 * i + 2) 0) (input.data.toList.getD (O + 4 * i + 3) 0) : Nat) : Int)) := Lib.hid (fun i => by unfold inAt; rw [if_pos (by simp)]; simp)
          generalize inAt input ⟨4, L, 1, O⟩ = f at *
          have hOs : (O : Int) + 4 * (L : Int) ≤ (input.size : Int) := by rw [HINP.out]; omega
          clear a0 a2 a3 hinn hi0 hi1
          go_loopw [29] (fun vi wr => ∃ i : Nat, i ≤ L ∧ vi = .int .i64 i ∧ Below (wq.heap.size + 1) w5 wr ∧ wr.heap[wq.heap.size + 1]? = some (.cells (ints ((List.range i).map f ++ List.replicate (L - i) 0)) 3 (0, 0))) (fun vi _ => L - (intOf vi).toNat)
          case atStart => exact ⟨0, by omega, rfl, Below.refl _ _, HG5.out⟩
          case round =>
            obtain ⟨i, hi, rfl, hIB, hIG⟩ := hrel
            have HIB := Lib.hid hIB
            have HIG := Lib.hid hIG
            by_cases hil : i < L
            · have hx := (hIB.block wq.heap.size (by omega)).trans HA5.out
              have a0 : wr.cell? ⟨wq.heap.size, 0, none⟩ = some (.int .i64 4) := (cell_of_blk hx 0).1
              have a2 : wr.cell? ⟨wq.heap.size, 2, none⟩ = some (.int .i64 1) := (cell_of_blk hx 2).1
              have a3 : wr.cell? ⟨wq.heap.size, 3, none⟩ = some (.int .i64 (O : Int)) := (cell_of_blk hx 3).1
              have hlen : ((List.range i).map f ++ List.replicate (L - i) 0).length = L := by simp; omega
              have c0 := (cell_of_blk hIG i).1.trans (ints_get _ i (by omega))
              have c1 := (cell_of_blk hIG i).2
              have HST : Hid (∀ x, ((wr.setCell ⟨wq.heap.size + 1, i, none⟩ (.int .i64 x)).setCell ⟨wq.heap.size + 1, i, none⟩ (.int .i64 (f i))).heap[wq.heap.size + 1]? = some (.cells (ints ((List.range (i + 1)).map f ++ List.replicate (L - (i + 1)) 0)) 3 (0, 0))) := Lib.hid (fun x => by rw [blk_set (blk_set hIG i (.int .i64 x)) i, ints_set, ints_set, List.set_set, fill_step f L i hil])
              have HSB := Lib.hid (fun x => (hIB.setCell (p := ⟨wq.heap.size + 1, i, none⟩) (Nat.le_refl _) (.int .i64 x)).setCell (p := ⟨wq.heap.size + 1, i, none⟩) (Nat.le_refl _) (.int .i64 (f i)))
              have i0 : (0 : Int) ≤ (i : Int) := by omega
              have i1 : (i : Int) < (L : Int) := by omega
              have i2 : (i : Int) ≤ 16384 := by omega
              have o2 : (O : Int) ≤ 65536 := by omega
              generalize ((List.range i).map f ++ List.replicate (L - i) 0).getD i 0 = old at *
              have hix : ∀ W, (Instr.index 9 (.string input) (.int .i64 ((O : Int) + (i : Int) * 4))).run Try.prog W = .ok (.int .u8 ((input.data.toList.getD (O + 4 * i) 0).toNat : Int)) W := fun W => run_index_at input (O + 4 * i) ((O : Int) + (i : Int) * 4) (by omega) (by omega) W
              have hsl : ∀ W, (Instr.slice 9 (.string input) (some (.int .i64 ((O : Int) + (i : Int) * 4))) (some (.int .i64 ((O : Int) + (i : Int) * 4 + 4))) none).run Try.prog W = .ok (.string ⟨#[input.data.toList.getD (O + 4 * i) 0, input.data.toList.getD (O + 4 * i + 1) 0, input.data.toList.getD (O + 4 * i + 2) 0, input.data.toList.getD (O + 4 * i + 3) 0]⟩) W := by
                intro W
                rw [run_slice_string W 9 input .i64 .i64 _ _ Try.underlying9 (by omega) (by omega) (by omega), show ((O : Int) + (i : Int) * 4).toNat = O + 4 * i by omega, show ((O : Int) + (i : Int) * 4 + 4).toNat = O + 4 * i + 4 by omega, extract_four input (O + 4 * i) (by omega)]
              have HFI := Lib.hid (HF.out i)
              have hby := (input.data.toList.getD (O + 4 * i) 0).toNat_lt
              generalize input.data.toList.getD (O + 4 * i) 0 = b0' at *
              generalize input.data.toList.getD (O + 4 * i + 1) 0 = b1' at *
              generalize input.data.toList.getD (O + 4 * i + 2) 0 = b2' at *
              generalize input.data.toList.getD (O + 4 * i + 3) 0 = b3' at *
              generalize f i = fi at *
              clear hx hIB hIG hlen
              go_wp2_with fail
              refine (word_Of_yes _ _ _ _ _).mono ?_
              rintro e w' ⟨rfl, rfl⟩
              rw [← HFI.out]
              go_wp2_with fail
              go_roundw
              case rel => exact ⟨i + 1, by omega, by go_num, HSB.out _, HST.out _⟩
              case measure => simp [intOf]; omega
            · obtain rfl : i = L := by omega
              rw [Nat.sub_self, show List.replicate 0 (0 : Int) = [] from rfl, List.append_nil] at hIG
              have HIG2 := Lib.hid hIG
              have m6 : wr.cell? ⟨w.heap.size + 1 + 1, 6, none⟩ = some aav := (cell_of_blk (HR.out.below (HBQ.out.trans (HIB.out.mono (by omega)))).blk 6).1
              obtain ⟨v', w6, hrun, g1, g2, g3, g4, A6, c6, rfl⟩ := RunAt.push (HR.out.below (HBQ.out.trans (HIB.out.mono (by omega)))) (by have := HBB.out.size; have := (HBB.out.trans ((HBQ.out.trans (HIB.out.mono (show wq.heap.size ≤ wq.heap.size + 1 by omega))).mono HBB.out.size)).size; omega) HIG2.out (by have := HBB.out.size; omega) (by omega) (by omega) HGN.out HGR.out (by omega)
              rw [hgl] at hrun g3 g4
              simp only [iSl, List.length_map, List.length_range] at hrun
              have HRUN := Lib.hid hrun
              have G3 := Lib.hid g3
              have G4 := Lib.hid (g4 (HBB.out.trans ((HBQ.out.trans (HIB.out.mono (show wq.heap.size ≤ wq.heap.size + 1 by omega))).mono HBB.out.size)) (Nat.le_refl _))
              clear hrun g3 g4
              go_wp2_with (at_builtin; refine wpList_app rfl (.tmp 69) (.tmp 71) 122 rfl HRUN.out rfl rfl ?_)
              go_roundw
              case rel => exact ⟨k + 1, by omega, by go_num, gs ++ [wq.heap.size + 1], _, by simp [hgl], by rw [HTK.out]; exact G3.out, G4.out⟩
              case measure => simp [intOf]; omega
      · have q1 : (ak != 1) = true := by rw [bne_iff_ne]; exact hk1
        have hL : (0 : Int) < (L : Int) := by omega
        have HLST : Hid (arrStart input ⟨el, L, ak, o⟩ = List.replicate L 0) := Lib.hid (by unfold arrStart; rw [if_neg hk1]; simp)
        rw [HLST.out] at HTK
        clear a0 a3 hinn
        refine wp_loop_rounds 1 ?_
        rw [rounds_succ]
        have m6 : w5.cell? ⟨w.heap.size + 1 + 1, 6, none⟩ = some aav := (cell_of_blk HR5.out.blk 6).1
        obtain ⟨v', w6, hrun, g1, g2, g3, g4, A6, c6, rfl⟩ := RunAt.push HR5.out (by have := HBB.out.size; have := HB5.out.size; omega) HG5.out (by have := HBB.out.size; omega) (by omega) (by omega) HGN.out HGR.out (by omega)
        rw [hgl] at hrun g3 g4
        simp only [iSl, List.length_replicate] at hrun
        have HRUN := Lib.hid hrun
        have G3 := Lib.hid g3
        have G4 := Lib.hid (g4 HB5.out (Nat.le_refl _))
        clear hrun g3 g4
        go_wp2_with (at_builtin; refine wpList_app rfl (.tmp 69) (.tmp 71) 122 rfl HRUN.out rfl rfl ?_)
        go_roundw
        case rel => exact ⟨k + 1, by omega, by go_num, gs ++ [wq.heap.size + 1], _, by simp [hgl], by rw [HTK.out]; exact G3.out, G4.out⟩
        case measure => simp [intOf]; omega
    · obtain rfl : k = p.arrays.length := by omega
      have hR2 := HR.out
      rw [List.take_length] at hR2
      have HR2 := Lib.hid hR2
      clear hR2
      go_wp2_with fail
      go_ret
      exact ⟨_, _, _, _, rfl, HR2.out, HBB.out⟩
end Go.Proofs.Ytiaimceefkdchaa
