/- Contract of a run's output (runner.output). No condition but those that the theorem names. -/
import Derived.Test.YtiaimceefkdchaaRunG
namespace Go.Proofs.Ytiaimceefkdchaa
open Go.RowKit
set_option linter.unusedVariables false
theorem run_mid (g n q h m : Nat) (h1 : q + m = h) (h2 : h ≤ n) (h3 : 0 < m) (W : World) : (Instr.slice 128 (.slice (some ⟨g, 0, none⟩) n n) (some (.int .i64 (q : Int))) (some (.int .i64 (h : Int))) none).run Try.prog W = .ok (.slice (some ⟨g, q, none⟩) m (n - q)) W := by
  have q0 : (0 : Int) ≤ (q : Int) := by omega
  have q1 : (q : Int) ≤ (h : Int) := by omega
  have q2 : (h : Int) ≤ (n : Int) := by omega
  have q4 : ¬ n = q := by omega
  have q5 : h - q = m := by omega
  simp [go_sem, q0, q1, q2, q4, q5, Addr.add]
  intro h; exact h.symm
set_option maxRecDepth 100000 in
set_option maxHeartbeats 8000000 in
theorem run_output (p : Ir) (AA : Option Addr) (ac : Nat) (bv : Value) (he : irErr p = 0) (B M gt : Nat) (gs : List Nat) (aav : Value) (s : St) (hf : Fit p s) (w : World) (hR : RunAt w B M gt gs aav p (.slice AA p.arrays.length ac) bv s) (hI : SlRep arrEnc w B (.slice AA p.arrays.length ac) p.arrays) :
    Calls Try.prog 75 #[.pointer (some ⟨M, 0, none⟩)] w fun e w' => e = .returned (.string (outP p s)) ∧ Below w.heap.size w w' := by
  obtain ⟨hng, hm⟩ := irErr_ok he
  obtain ⟨⟨⟨hi0, hi1, _⟩, ⟨ho0, ho1, _⟩, hT0, _⟩, hae, _⟩ := hm
  have HALL := Lib.hid (arrEnd_all p.inp p.out p.arrays 0 hae)
  have HOUT := Lib.hid (arrEnd_out p.inp p.out p.arrays 0 (Int.le_refl 0) hae)
  unfold greatP at hng
  obtain ⟨O, hO⟩ : ∃ O : Nat, p.out = (O : Int) := ⟨p.out.toNat, by omega⟩
  have hO1 : O ≤ 65536 := by omega
  have hn1 : p.arrays.length ≤ 1048576 := by have := railSum_nonneg p.arrays; omega
  have hB : B ≤ w.heap.size := by have := lt_of_blk hR.blk; have := hR.bM; omega
  have hgs : gs.length = p.arrays.length := hR.len.trans hf.ml
  have HGS := Lib.hid hgs
  have HML := Lib.hid hf.mlen
  have HR := Lib.hid hR
  have HI := Lib.hid hI
  have hG0 : outGo p s 0 = List.replicate O 0 := by unfold outGo; rw [hO]; rfl
  have HG0 := Lib.hid hG0
  have hmk := run_make_bytes2 O (by omega)
  have HO := Lib.hid hO
  have m4 : w.cell? ⟨M, 4, none⟩ = some (.int .i64 (O : Int)) := by rw [← hO]; exact (cell_of_blk hR.blk 4).1
  have m1 : (w.alloc (.cells (bVals (List.replicate O 0)) 5)).cell? ⟨M, 1, none⟩ = some (.slice AA p.arrays.length ac) := (cell_of_blk (hR.below (bnew w _)).blk 1).1
  have hb1 := bnew w (.cells (bVals (List.replicate O 0)) 5)
  have hx1 := heap_alloc_new w (.cells (bVals (List.replicate O 0)) 5)
  rw [← hG0] at hx1
  clear hng hae hR hI hi0 hi1 ho0 ho1 he hT0 hO hgs hf hG0
  generalize hOP : outP p s = RES
  have HOP := Lib.hid hOP
  clear hOP
  go_enter Try.func75, Try.ntmps75
  go_wp2_with fail
  rw [HG0.out] at hx1
  generalize w.alloc (.cells (bVals (List.replicate O 0)) 5) = w1 at *
  rw [← HG0.out] at hx1
  have HX1 := Lib.hid hx1
  have HB1 := Lib.hid hb1
  clear hx1 hb1 hmk m4 m1
  go_loopw [20] (fun j wr => ∃ k : Nat, k ≤ p.arrays.length ∧ j = .int .i64 k ∧ Below w.heap.size w wr ∧ wr.heap[w.heap.size]? = some (.cells (bVals (outGo p s k)) 5 (0, 0)) ∧ (outGo p s k).length = O) (fun j _ => p.arrays.length - (intOf j).toNat)
  case atStart => exact ⟨0, by omega, rfl, HB1.out, HX1.out, by rw [HG0.out]; simp⟩
  case round =>
    obtain ⟨k, hk, rfl, hB2, hX2, hL2⟩ := hrel
    have HB2 := Lib.hid hB2
    have HX2 := Lib.hid hX2
    have HL2 := Lib.hid hL2
    by_cases hlt : k < p.arrays.length
    · obtain ⟨b, off, rfl, hb0, x0, x1, x2, x3⟩ := arr_at (HI.out.below hB2 hB) k hlt
      obtain ⟨hsh, hkk⟩ := HALL.out _ (getD_memI p.arrays k arrNone hlt)
      have hoo := HOUT.out _ (getD_memI p.arrays k arrNone hlt)
      have hml := HML.out k hlt
      have hGS := outGo_succ p s k
      have hsl := lt_of_blk hX2
      generalize p.arrays.getD k arrNone = ar at *
      obtain ⟨el, ln, ak, o⟩ := ar
      simp only at x0 x1 x2 x3 hoo hml
      obtain ⟨h2, h3, h4⟩ := hsh
      simp only at h2 h3 h4
      have k0 : (0 : Int) ≤ (k : Int) := by omega
      have k1 : (k : Int) < (p.arrays.length : Int) := by omega
      have hbA := bnew wr (.cells #[.int .i64 el, .int .i64 ln, .int .i64 ak, .int .i64 o] 36)
      have hxA := heap_alloc_new wr (.cells #[.int .i64 el, .int .i64 ln, .int .i64 ak, .int .i64 o] 36)
      have HBA := Lib.hid (hB2.trans (hbA.mono hB2.size))
      have HXA := Lib.hid ((hbA.block _ hsl).trans hX2)
      by_cases hk2 : ak = 2
      · subst hk2
        obtain ⟨oo0, oo1⟩ := hoo rfl
        have hkg : k < gs.length := by rw [HGS.out]; exact hlt
        obtain ⟨E, rfl⟩ : ∃ E : Nat, el = (E : Int) := ⟨el.toNat, by omega⟩
        obtain ⟨F, rfl⟩ : ∃ F : Nat, o = (F : Int) := ⟨o.toNat, by omega⟩
        obtain ⟨L, rfl⟩ : ∃ L : Nat, ln = (L : Int) := ⟨ln.toNat, by omega⟩
        have hE4 : E ≤ 4 := by omega
        have hE1 : 0 < E := by omega
        have hFO : F + L * E ≤ O := by
          have h5 : p.out = (O : Int) := HO.out
          have e : ((L * E : Nat) : Int) = (E : Int) * (L : Int) := by rw [Int.natCast_mul, Int.mul_comm]
          omega
        rw [outArr_yes rfl] at hGS
        have hml2 : (s.mem.getD k []).length = L := by rw [hml]; simp
        rw [hml2] at hGS
        have hRA := HR.out.below HBA.out
        obtain ⟨r, cap, rfl, hrc⟩ := hRA.slot k hkg
        unfold iSl at hrc
        rw [hml2] at hrc
        have m6 : (wr.alloc (.cells #[.int .i64 (E : Int), .int .i64 (L : Int), .int .i64 2, .int .i64 (F : Int)] 36)).cell? ⟨M, 6, none⟩ = some (.slice (some ⟨r, 0, none⟩) gs.length cap) := (cell_of_blk hRA.blk 6).1
        have hcg : gs.length ≤ cap := by
          rcases hRA.row.2 with ⟨h, _⟩ | ⟨_, _, _, h, _, _, h2, _⟩
          · cases h
          · injection h with _ _ h3; omega
        have hkg2 : (k : Int) < (gs.length : Int) := by omega
        have hEL := Lib.hid (fun W (h : RunAt W B M gt gs (.slice (some ⟨r, 0, none⟩) gs.length cap) p (.slice (some ⟨b, off, none⟩) p.arrays.length ac) bv s) i (hi : i < L) => (h.elem k hkg i (by rw [hml2]; exact hi)).1)
        have HOL := Lib.hid (outSome_len ⟨E, L, 2, F⟩ (s.mem.getD k []) (outGo p s k) (by simpa using hE4))
        have HOS := Lib.hid (outSome_succ ⟨E, L, 2, F⟩ (s.mem.getD k []) (outGo p s k))
        have HO0 : Hid (outSome ⟨E, L, 2, F⟩ (s.mem.getD k []) (outGo p s k) 0 = outGo p s k) := Lib.hid rfl
        have HGS2 := Lib.hid hGS
        have HXAA := Lib.hid hxA
        clear hB2 hX2 hGS hbA hxA hoo hml hkk h2 oo0 oo1 hml2 hRA hL2
        generalize hgi : gs.getD k 0 = gi at *
        have HGI := Lib.hid hgi
        clear hgi
        go_wp2_with fail
        generalize wr.alloc (.cells #[.int .i64 (E : Int), .int .i64 (L : Int), .int .i64 2, .int .i64 (F : Int)] 36) = wA at *
        obtain ⟨wq, rfl⟩ : ∃ wq : World, wq = wr := ⟨_, rfl⟩
        clear m6 hrc x0 x1 x2 x3
        go_loopw [36] (fun vi wr => ∃ i : Nat, i ≤ L ∧ vi = .int .i64 i ∧ Below w.heap.size w wr ∧ wr.heap[w.heap.size]? = some (.cells (bVals (outSome ⟨E, L, 2, F⟩ (s.mem.getD k []) (outGo p s k) i)) 5 (0, 0)) ∧ wr.heap[wq.heap.size]? = some (.cells #[.int .i64 (E : Int), .int .i64 (L : Int), .int .i64 2, .int .i64 (F : Int)] 36 (0, 0))) (fun vi _ => L - (intOf vi).toNat)
        case atStart => exact ⟨0, by omega, rfl, HBA.out, HXA.out, HXAA.out⟩
        case round =>
          obtain ⟨i, hi, rfl, hB3, hX3, hA3⟩ := hrel
          have HB3 := Lib.hid hB3
          have HX3 := Lib.hid hX3
          have HA3 := Lib.hid hA3
          by_cases hil : i < L
          · have ce := hEL.out _ (HR.out.below hB3) i hil
            have hmul : (i + 1) * E ≤ L * E := Nat.mul_le_mul_right E hil
            rw [Nat.succ_mul] at hmul
            have hlen := HOL.out i (by rw [HL2.out]; simp only [Int.toNat_natCast]; omega)
            rw [HL2.out] at hlen
            have hsu := HOS.out i
            unfold outElem at hsu
            simp only [Int.toNat_natCast] at hsu
            have e1 : IntKind.i64.wrap ((i : Int) * (E : Int)) = ((i * E : Nat) : Int) := by
              rw [wrapi64, Int.natCast_mul]; rw [← Int.natCast_mul]; exact wrap64_small _ (by omega) (by omega)
            generalize hq1 : i * E = m at *
            have e2 : IntKind.i64.wrap ((F : Int) + (m : Int)) = ((F + m : Nat) : Int) := by
              rw [wrapi64]; rw [wrap64_small _ (by omega) (by omega)]; omega
            have e3 : IntKind.i64.wrap (((F + m : Nat) : Int) + (E : Int)) = ((F + m + E : Nat) : Int) := by
              rw [wrapi64]; rw [wrap64_small _ (by omega) (by omega)]; omega
            have hsl3 := run_mid w.heap.size O (F + m) (F + m + E) E rfl (by omega) hE1
            generalize hq2 : F + m + E = h2 at *
            generalize hq3 : F + m = q2 at *
            generalize (s.mem.getD k []).getD i 0 = v at *
            have HSU := Lib.hid hsu
            have HLEN := Lib.hid hlen
            have HQ := Lib.hid (show q2 + E ≤ O by omega)
            have i0 : (0 : Int) ≤ (i : Int) := by omega
            have i1 : (i : Int) < (L : Int) := by omega
            clear hq1 hq2 hq3 hsu hlen hmul
            have HS : Hid (∀ w' : World, w'.heap[wq.heap.size]? = some (.cells #[.int .i64 (E : Int), .int .i64 (L : Int), .int .i64 2, .int .i64 (F : Int)] 36 (0, 0)) → (w'.cell? ⟨wq.heap.size, 0, none⟩ = some (.int .i64 (E : Int)) ∧ w'.cell? ⟨wq.heap.size, 3, none⟩ = some (.int .i64 (F : Int)) ∧ w'.heap[wq.heap.size]? = some (.cells #[.int .i64 (E : Int), .int .i64 (L : Int), .int .i64 2, .int .i64 (F : Int)] 36 (0, 0)))) := Lib.hid (fun w' h => ⟨(cell_of_blk h 0).1, (cell_of_blk h 3).1, h⟩)
            clear hB3 hX3
            go_wp2_with fail
            clear ce
            go_region_held3 (fun w' => w'.cell? ⟨wq.heap.size, 0, none⟩ = some (.int .i64 (E : Int)) ∧ w'.cell? ⟨wq.heap.size, 3, none⟩ = some (.int .i64 (F : Int)) ∧ w'.heap[wq.heap.size]? = some (.cells #[.int .i64 (E : Int), .int .i64 (L : Int), .int .i64 2, .int .i64 (F : Int)] 36 (0, 0)))
              (exact HS.out _ (by first | assumption | exact hA3 | exact (setRow_far2 (by omega)).trans G8))
              (first
                | (go_at_call 103; refine (word_Bytes _ _).mono ?_; rintro e w8 ⟨rfl, hb8⟩; have G8 := (hb8.block _ (lt_of_blk HA3.out)).trans HA3.out; have X8 := Lib.hid ((hb8.block _ (lt_of_blk HX3.out)).trans HX3.out); have B8 := Lib.hid (HB3.out.drew.trans (hb8.mono HB3.out.size)))
                | (refine step_cpy rfl (.tmp 59) (.tmp 61) 128 9 rfl rfl rfl (run_out_elem _ w.heap.size _ X8.out q2 E _ hE4 (by rw [HLEN.out]; exact HQ.out) v) ?_))
            have HFB := Lib.hid (below_setRow B8.out (Nat.le_refl w.heap.size) (bVals (lay (outSome ⟨(E : Int), (L : Int), 2, (F : Int)⟩ (s.mem.getD k []) (outGo p s k) i) q2 ((wBytes v).data.toList.take E))))
            have HFX := Lib.hid (setRow_at2 (cs' := bVals (lay (outSome ⟨(E : Int), (L : Int), 2, (F : Int)⟩ (s.mem.getD k []) (outGo p s k) i) q2 ((wBytes v).data.toList.take E))) X8.out)
            have HFA := Lib.hid ((setRow_far2 (w := w8) (g := w.heap.size) (k := wq.heap.size) (cs' := bVals (lay (outSome ⟨(E : Int), (L : Int), 2, (F : Int)⟩ (s.mem.getD k []) (outGo p s k) i) q2 ((wBytes v).data.toList.take E))) (by omega)).trans G8)
            generalize w8.setRow w.heap.size (bVals (lay (outSome ⟨(E : Int), (L : Int), 2, (F : Int)⟩ (s.mem.getD k []) (outGo p s k) i) q2 ((wBytes v).data.toList.take E))) = w9 at *
            clear G8 hb8 hA3
            go_wp2_with fail
            go_roundw
            case rel => exact ⟨i + 1, by omega, by go_num, HFB.out, by rw [HSU.out]; exact HFX.out, HFA.out⟩
            case measure => simp [intOf]; omega
          · obtain rfl : i = L := by omega
            have hln := HOL.out i (by rw [HL2.out]; simp only [Int.toNat_natCast]; exact hFO)
            rw [HL2.out] at hln
            have HLN := Lib.hid hln
            clear hB3 hX3 hA3 hln
            go_wp2_with fail
            go_roundw
            case rel => exact ⟨k + 1, by omega, by go_num, HB3.out, by rw [HGS2.out]; exact HX3.out, by rw [HGS2.out]; exact HLN.out⟩
            case measure => simp [intOf]; omega
      · have q1 : (ak != 2) = true := by rw [bne_iff_ne]; exact hk2
        rw [outArr_no hk2] at hGS
        have HGS2 := Lib.hid hGS
        clear hB2 hX2 hL2 hGS hbA hxA hoo hml hkk
        go_wp2_with fail
        go_roundw
        case rel => exact ⟨k + 1, by omega, by go_num, HBA.out, by rw [HGS2.out]; exact HXA.out, by rw [HGS2.out]; exact HL2.out⟩
        case measure => simp [intOf]; omega
    · obtain rfl : k = p.arrays.length := by omega
      have hcv : (convert 128 9 (.slice (some ⟨w.heap.size, 0, none⟩) O O)).run Try.prog wr = .ok (.string RES) wr := by
        rw [← HOP.out]
        unfold outP
        have hX3 := HX2.out
        have hl3 := HL2.out
        generalize outGo p s p.arrays.length = bs at *
        have hc : ∀ j (hj : j < bs.length), wr.cell? ((⟨w.heap.size, 0, none⟩ : Addr).add j) = some (.int .u8 ((bs[j]).toNat : Int)) := by
          intro j hj
          have ha : ((⟨w.heap.size, 0, none⟩ : Addr).add j) = ⟨w.heap.size, j, none⟩ := by
            unfold Addr.add; split
            · rename_i h; simp
            · simp
          rw [ha, (cell_of_blk hX3 j).1]
          unfold bVals
          simp [hj]
        have := run_convert_bytes_back (P := Try.prog) wr 128 9 5 ⟨w.heap.size, 0, none⟩ O bs Try.underlying128 Try.underlying5 Try.underlying9 hc
        rw [hl3] at this
        exact this
      clear hX2 hL2
      go_wp2_with fail
      go_ret
      exact ⟨rfl, HB2.out⟩
end Go.Proofs.Ytiaimceefkdchaa
