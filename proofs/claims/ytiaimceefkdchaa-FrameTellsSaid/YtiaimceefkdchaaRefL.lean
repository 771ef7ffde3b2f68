/- Contracts of hauberkref17's arrays and Check. No condition but those that each theorem names. -/
import Derived.Test.YtiaimceefkdchaaRefJ
import Derived.Test.YtiaimceefkdchaaRefK
import Derived.Test.YtiaimceefkdchaaIrF
namespace Go.Proofs.Ytiaimceefkdchaa
open Go.RowKit
theorem arr_shut (inp out en : Int) (a : Arr) (h : ¬ shapedP a) : arrStep inp out en a = none := by unfold arrStep; rw [if_pos h]
theorem arr_open (inp out en : Int) (a : Arr) (h : shapedP a) : arrStep inp out en a = if a.kind = 0 then (if a.off = 0 then some en else none)
      else if a.kind = 1 then (if 0 ≤ a.off ∧ a.off ≤ inp - a.elem * a.len ∧ a.off % 4 = 0 then some en else none)
      else if a.kind = 2 then (if en ≤ a.off ∧ a.off ≤ out - a.elem * a.len ∧ a.off % 4 = 0 then some (up4 (a.off + a.elem * a.len)) else none)
      else none := by unfold arrStep; rw [if_neg (by simpa using h)]
set_option maxHeartbeats 4000000 in
set_option maxRecDepth 100000 in
theorem ref_arrays (p : Ir) (AA : Option Addr) (ac : Nat) (bv : Value) (h0 : 0 ≤ p.inp ∧ p.inp ≤ 65536) (h1 : 0 ≤ p.out ∧ p.out ≤ 65536) (hn : p.arrays.length ≤ 1048576) (w : World) (hRA : SlRep arrEnc w w.heap.size (.slice AA p.arrays.length ac) p.arrays) :
    Calls Try.prog 69 #[irVal p (.slice AA p.arrays.length ac) bv] w fun e w' => e = .returned (.bool (arrEnd p.inp p.out p.arrays 0).isSome) ∧ Below w.heap.size w w' := by
  have HRM := Lib.hid (fun x W => ref_Room x W)
  have HRA := Lib.hid hRA
  obtain ⟨h01, h02⟩ := h0
  obtain ⟨h11, h12⟩ := h1
  generalize hA : (arrEnd p.inp p.out p.arrays 0).isSome = R at *
  have HA := Lib.hid hA
  unfold irVal
  clear hRA hA
  go_enter Try.func69, Try.ntmps69
  have hs1 : (w.alloc (.cells #[.int .i64 p.temps, .slice AA p.arrays.length ac, bv, .int .i64 p.inp, .int .i64 p.out] 25)).heap.size = w.heap.size + 1 := by simp
  have hx1 := heap_alloc_new w (.cells #[.int .i64 p.temps, .slice AA p.arrays.length ac, bv, .int .i64 p.inp, .int .i64 p.out] 25)
  have hb1 := bnew w (.cells #[.int .i64 p.temps, .slice AA p.arrays.length ac, bv, .int .i64 p.inp, .int .i64 p.out] 25)
  go_wp2_with fail
  generalize w.alloc (.cells #[.int .i64 p.temps, .slice AA p.arrays.length ac, bv, .int .i64 p.inp, .int .i64 p.out] 25) = w1 at *
  have HX1 := Lib.hid hx1
  have HB1 := Lib.hid hb1
  clear hx1 hb1
  go_loopw [3, 4] (fun v j wr => ∃ (k : Nat) (en : Int), k ≤ p.arrays.length ∧ j = .int .i64 k ∧ v = .int .i64 en ∧ 0 ≤ en ∧ en ≤ 200000 ∧ arrEnd p.inp p.out (p.arrays.take k) 0 = some en ∧ Below w1.heap.size w1 wr) (fun _ j _ => p.arrays.length - (intOf j).toNat)
  case atStart => exact ⟨0, 0, by omega, rfl, rfl, by omega, by omega, rfl, Below.refl _ _⟩
  case round =>
    obtain ⟨k, en, hk, rfl, rfl, hen, hen2, hend, hK⟩ := hrel
    have hx := (hK.block _ (lt_of_blk HX1.out)).trans HX1.out
    have c1 : wr.cell? ⟨w.heap.size, 1, none⟩ = some (.slice AA p.arrays.length ac) := (cell_of_blk hx 1).1
    have HX := Lib.hid hx
    have HK := Lib.hid hK
    have k0 : (0 : Int) ≤ (k : Int) := by omega
    by_cases hlt : k < p.arrays.length
    · obtain ⟨b, off, rfl, hb0, x0, x1, x2, x3⟩ := arr_at (HRA.out.below (bch HB1.out hK) (Nat.le_refl _)) k hlt
      have hstep := arrEnd_step p.inp p.out p.arrays k hlt en hend
      have hbad : arrStep p.inp p.out en (p.arrays.getD k arrNone) = none → R = false := by
        intro h
        rw [h] at hstep
        rw [← HA.out, arrEnd_fail p.inp p.out p.arrays (k + 1) hstep]; rfl
      generalize p.arrays.getD k arrNone = ar at *
      obtain ⟨e, l, ak, o⟩ := ar
      have HRO := Lib.hid (HRM.out ⟨e, l, ak, o⟩)
      simp only at x0 x1 x2 x3 HRO
      generalize hE : arrStep p.inp p.out en ⟨e, l, ak, o⟩ = st at *
      have HBAD := Lib.hid hbad
      have k1 : (k : Int) < (p.arrays.length : Int) := by omega
      have HCE : Hid (∀ w3, Below (wr.alloc (.cells #[.int .i64 e, .int .i64 l, .int .i64 ak, .int .i64 o] 36)).heap.size (wr.alloc (.cells #[.int .i64 e, .int .i64 l, .int .i64 ak, .int .i64 o] 36)) w3 →
          w3.cell? ⟨wr.heap.size, 0, none⟩ = some (.int .i64 e) ∧ w3.cell? ⟨wr.heap.size, 1, none⟩ = some (.int .i64 l) ∧ w3.cell? ⟨wr.heap.size, 2, none⟩ = some (.int .i64 ak) ∧ w3.cell? ⟨wr.heap.size, 3, none⟩ = some (.int .i64 o) ∧ w3.cell? ⟨w.heap.size, 3, none⟩ = some (.int .i64 p.inp) ∧ w3.cell? ⟨w.heap.size, 4, none⟩ = some (.int .i64 p.out)) := Lib.hid (fun w3 hb => by
        have ha := (hb.block wr.heap.size (by simp)).trans (heap_alloc_new wr _)
        have hp := (hb.block w.heap.size (by have := lt_of_blk HX.out; simp; omega)).trans (((bnew wr _).block _ (lt_of_blk HX.out)).trans HX.out)
        exact ⟨(cell_of_blk ha 0).1, (cell_of_blk ha 1).1, (cell_of_blk ha 2).1, (cell_of_blk ha 3).1, (cell_of_blk hp 3).1, (cell_of_blk hp 4).1⟩)
      clear hbad hend hK hx
      by_cases hs : shapedP ⟨e, l, ak, o⟩
      · have hro : room ⟨e, l, ak, o⟩ = up4 (e * l) := by unfold room; rw [if_pos hs]
        have hst := arr_open p.inp p.out en ⟨e, l, ak, o⟩ hs
        simp only at hst
        have hN : wrap64 (e * l) = e * l ∧ 1 ≤ e * l ∧ e * l ≤ 65536 := by
          obtain ⟨h2, h3, h4⟩ := hs
          simp only at h2 h3 h4
          rcases h2 with h2 | h2 <;> rw [h2] <;> unfold wrap64 <;> omega
        obtain ⟨e1, hN1, hN2⟩ := hN
        rw [hro] at HRO
        clear hro hs
        generalize hn2 : e * l = n at *
        have e2 : wrap64 (e * l) = n := by rw [hn2]; exact e1
        have hu : 1 ≤ up4 n ∧ up4 n ≤ n + 3 ∧ up4 n % 4 = 0 ∧ n ≤ up4 n := by unfold up4; omega
        have hup : o % 4 = 0 → up4 (o + n) = o + up4 n := by unfold up4; omega
        generalize up4 n = u at *
        obtain ⟨hu1, hu2, hu3, hu4⟩ := hu
        have qu : (u == 0) = false := by rw [beq_eq_false_iff_ne]; omega
        rw [hst] at hE
        clear hn2 hst
        by_cases o0 : o < 0
        · have q0 := o0
          have h0 : st = none := by
            rw [← hE]
            (repeat' split) <;> first | rfl | omega
          have hR := HBAD.out h0
          clear h0
          subst hR
          go_wp2_with fail
          refine (HRO.out _).mono ?_
          rintro e3 w3 ⟨rfl, hb3⟩
          obtain ⟨z0, z1, z2, z3, u3, u4⟩ := HCE.out w3 hb3
          have HB3 := Lib.hid (bch (bal HK.out _) hb3)
          clear hb3
          go_wp2_with fail
          go_ret
          exact ⟨rfl, bch HB1.out HB3.out⟩
        · have o1 : 0 ≤ o := by omega
          have tm : o.tmod 4 = o % 4 := Int.tmod_eq_emod_of_nonneg o1
          by_cases o4 : o % 4 = 0
          · have q4 : (o % 4 != 0) = false := by rw [bne_eq_false_iff_eq]; exact o4
            have hup2 := hup o4
            by_cases ob : 65536 < o
            · clear tm
              have h0 : st = none := by
                rw [← hE]
                (repeat' split) <;> first | rfl | omega
              have hR := HBAD.out h0
              clear h0
              subst hR
              go_wp2_with fail
              refine (HRO.out _).mono ?_
              rintro e3 w3 ⟨rfl, hb3⟩
              obtain ⟨z0, z1, z2, z3, u3, u4⟩ := HCE.out w3 hb3
              have HB3 := Lib.hid (bch (bal HK.out _) hb3)
              clear hb3
              go_wp2_with fail
              go_ret
              exact ⟨rfl, bch HB1.out HB3.out⟩
            · clear tm
              by_cases a0 : ak = 0
              · subst a0
                by_cases oz : o = 0
                · subst oz
                  have h0 : st = some en := by
                    rw [← hE]
                    rw [if_pos rfl, if_pos rfl]
                  have HST := Lib.hid (hstep.trans h0)
                  clear h0
                  go_wp2_with fail
                  refine (HRO.out _).mono ?_
                  rintro e3 w3 ⟨rfl, hb3⟩
                  obtain ⟨z0, z1, z2, z3, u3, u4⟩ := HCE.out w3 hb3
                  have HB3 := Lib.hid (bch (bal HK.out _) hb3)
                  clear hb3
                  go_wp2_with fail
                  go_roundw
                  case rel => exact ⟨k + 1, en, by omega, by go_num, by go_num, by omega, by omega, HST.out, HB3.out⟩
                  case measure => simp [intOf]; omega
                · have qz : (o == 0) = false := by rw [beq_eq_false_iff_ne]; exact oz
                  have h0 : st = none := by
                    rw [← hE]
                    rw [if_pos rfl, if_neg oz]
                  have hR := HBAD.out h0
                  clear h0
                  subst hR
                  go_wp2_with fail
                  refine (HRO.out _).mono ?_
                  rintro e3 w3 ⟨rfl, hb3⟩
                  obtain ⟨z0, z1, z2, z3, u3, u4⟩ := HCE.out w3 hb3
                  have HB3 := Lib.hid (bch (bal HK.out _) hb3)
                  clear hb3
                  go_wp2_with fail
                  go_ret
                  exact ⟨rfl, bch HB1.out HB3.out⟩
              · have qa : (ak == 0) = false := by rw [beq_eq_false_iff_ne]; exact a0
                by_cases a1 : ak = 1
                · subst a1
                  by_cases oi : o + n ≤ p.inp
                  · skip
                    have h0 : st = some en := by
                      rw [← hE]
                      rw [if_neg (by omega), if_pos rfl, if_pos ⟨o1, by omega, o4⟩]
                    have HST := Lib.hid (hstep.trans h0)
                    clear h0
                    go_wp2_with fail
                    refine (HRO.out _).mono ?_
                    rintro e3 w3 ⟨rfl, hb3⟩
                    obtain ⟨z0, z1, z2, z3, u3, u4⟩ := HCE.out w3 hb3
                    have HB3 := Lib.hid (bch (bal HK.out _) hb3)
                    clear hb3
                    go_wp2_with fail
                    go_roundw
                    case rel => exact ⟨k + 1, en, by omega, by go_num, by go_num, by omega, by omega, HST.out, HB3.out⟩
                    case measure => simp [intOf]; omega
                  · skip
                    have h0 : st = none := by
                      rw [← hE]
                      rw [if_neg (by omega), if_pos rfl, if_neg (by omega)]
                    have hR := HBAD.out h0
                    clear h0
                    subst hR
                    go_wp2_with fail
                    refine (HRO.out _).mono ?_
                    rintro e3 w3 ⟨rfl, hb3⟩
                    obtain ⟨z0, z1, z2, z3, u3, u4⟩ := HCE.out w3 hb3
                    have HB3 := Lib.hid (bch (bal HK.out _) hb3)
                    clear hb3
                    go_wp2_with fail
                    go_ret
                    exact ⟨rfl, bch HB1.out HB3.out⟩
                · have qb : (ak == 1) = false := by rw [beq_eq_false_iff_ne]; exact a1
                  by_cases a2 : ak = 2
                  · subst a2
                    by_cases oo : o + n ≤ p.out
                    · by_cases oe : en ≤ o
                      · skip
                        have h0 : st = some (o + u) := by
                          rw [← hE]
                          rw [if_neg (by omega), if_neg (by omega), if_pos rfl, if_pos ⟨oe, by omega, o4⟩, hup2]
                        have HST := Lib.hid (hstep.trans h0)
                        clear h0
                        go_wp2_with fail
                        refine (HRO.out _).mono ?_
                        rintro e3 w3 ⟨rfl, hb3⟩
                        obtain ⟨z0, z1, z2, z3, u3, u4⟩ := HCE.out w3 hb3
                        have HB3 := Lib.hid (bch (bal HK.out _) hb3)
                        clear hb3
                        go_wp2_with fail
                        go_roundw
                        case rel => exact ⟨k + 1, (o + u), by omega, by go_num, by go_num, by omega, by omega, HST.out, HB3.out⟩
                        case measure => simp [intOf]; omega
                      · skip
                        have h0 : st = none := by
                          rw [← hE]
                          rw [if_neg (by omega), if_neg (by omega), if_pos rfl, if_neg (by omega)]
                        have hR := HBAD.out h0
                        clear h0
                        subst hR
                        go_wp2_with fail
                        refine (HRO.out _).mono ?_
                        rintro e3 w3 ⟨rfl, hb3⟩
                        obtain ⟨z0, z1, z2, z3, u3, u4⟩ := HCE.out w3 hb3
                        have HB3 := Lib.hid (bch (bal HK.out _) hb3)
                        clear hb3
                        go_wp2_with fail
                        go_ret
                        exact ⟨rfl, bch HB1.out HB3.out⟩
                    · skip
                      have h0 : st = none := by
                        rw [← hE]
                        rw [if_neg (by omega), if_neg (by omega), if_pos rfl, if_neg (by omega)]
                      have hR := HBAD.out h0
                      clear h0
                      subst hR
                      go_wp2_with fail
                      refine (HRO.out _).mono ?_
                      rintro e3 w3 ⟨rfl, hb3⟩
                      obtain ⟨z0, z1, z2, z3, u3, u4⟩ := HCE.out w3 hb3
                      have HB3 := Lib.hid (bch (bal HK.out _) hb3)
                      clear hb3
                      go_wp2_with fail
                      go_ret
                      exact ⟨rfl, bch HB1.out HB3.out⟩
                  · have qc : (ak == 2) = false := by rw [beq_eq_false_iff_ne]; exact a2
                    have h0 : st = none := by
                      rw [← hE]
                      rw [if_neg a0, if_neg a1, if_neg a2]
                    have hR := HBAD.out h0
                    clear h0
                    subst hR
                    go_wp2_with fail
                    refine (HRO.out _).mono ?_
                    rintro e3 w3 ⟨rfl, hb3⟩
                    obtain ⟨z0, z1, z2, z3, u3, u4⟩ := HCE.out w3 hb3
                    have HB3 := Lib.hid (bch (bal HK.out _) hb3)
                    clear hb3
                    go_wp2_with fail
                    go_ret
                    exact ⟨rfl, bch HB1.out HB3.out⟩
          · have q4 : (o % 4 != 0) = true := by rw [bne_iff_ne]; exact o4
            clear tm
            have h0 : st = none := by
              rw [← hE]
              (repeat' split) <;> first | rfl | omega
            have hR := HBAD.out h0
            clear h0
            subst hR
            go_wp2_with fail
            refine (HRO.out _).mono ?_
            rintro e3 w3 ⟨rfl, hb3⟩
            obtain ⟨z0, z1, z2, z3, u3, u4⟩ := HCE.out w3 hb3
            have HB3 := Lib.hid (bch (bal HK.out _) hb3)
            clear hb3
            go_wp2_with fail
            go_ret
            exact ⟨rfl, bch HB1.out HB3.out⟩
      · have hro : room ⟨e, l, ak, o⟩ = 0 := by unfold room; rw [if_neg hs]
        rw [hro] at HRO
        clear hro
        have h0 : st = none := by
          rw [← hE]
          exact arr_shut _ _ _ _ hs
        have hR := HBAD.out h0
        clear h0
        subst hR
        go_wp2_with fail
        refine (HRO.out _).mono ?_
        rintro e3 w3 ⟨rfl, hb3⟩
        obtain ⟨z0, z1, z2, z3, u3, u4⟩ := HCE.out w3 hb3
        have HB3 := Lib.hid (bch (bal HK.out _) hb3)
        clear hb3
        go_wp2_with fail
        go_ret
        exact ⟨rfl, bch HB1.out HB3.out⟩
    · obtain rfl : k = p.arrays.length := by omega
      rw [List.take_length] at hend
      have hR : R = true := by rw [← HA.out, hend]; rfl
      subst hR
      clear hK hx hend
      go_wp2_with fail
      go_ret
      exact ⟨rfl, bch HB1.out HK.out⟩
end Go.Proofs.Ytiaimceefkdchaa
