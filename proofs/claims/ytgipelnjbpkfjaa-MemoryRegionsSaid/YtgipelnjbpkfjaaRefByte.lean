/- Contract of the document's byteAt. No condition but those that each theorem names. -/
import Derived.Test.YtgipelnjbpkfjaaRefA
import Derived.Deep.RegionHeld3
namespace Go.Proofs.Ytgipelnjbpkfjaa
open Go.RowKit
theorem run_index_str (s : ByteArray) (q : Int) (h0 : 0 ≤ q) (h1 : q < s.size) (W : World) : (Instr.index 9 (.string s) (.int .i64 q)).run Try.prog W = .ok (.int .u8 ((strAt s q.toNat).toNat : Int)) W := by
  have h2 : q.toNat < s.size := by omega
  simp [go_sem, h0, h1, h2, strAt]
  rfl
theorem run_index_w (v t : Int) (h0 : 0 ≤ t) (h1 : t < 4) (W : World) : (Instr.index 9 (.string (wBytes v)) (.int .i64 t)).run Try.prog W = .ok (.int .u8 (v % 4294967296 / 2 ^ (8 * t.toNat) % 256)) W := by
  rw [run_index_str (wBytes v) t h0 (by rw [wBytes_size]; omega) W]
  unfold strAt
  rw [wBytes_list, w_byte v t.toNat (by omega), ← wd_cast, byte_cast]
theorem wrap_byte (u : UInt8) : wrap64 (u.toNat : Int) = u.toNat := by
  have := u.toNat_lt
  unfold wrap64; omega
theorem stByte_cast (x : St) (a : Int) : 0 ≤ stByte x a ∧ stByte x a < 256 := by unfold stByte; omega
set_option maxHeartbeats 4000000 in
theorem ref07_byteAt (i o r : Int) (flash input : ByteArray) (A : Option Addr) (c : Nat) (xs : List St) (a : Int) (hr : -9223372036854775808 ≤ r ∧ r ≤ 9223372036854775807) (hck : mmCheck i o r flash.size = 0) (hin : (input.size : Int) = i) (ha0 : 0 ≤ a) (ha1 : a ≤ 1099511627776) (hI : ∀ x ∈ xs, x.a ≤ 9223372036854775807) (hn : xs.length ≤ 1000000) (w : World) (hA : StSl w w.heap.size A xs) :
    Calls Try.prog 52 #[startVal i o r flash input, .slice A xs.length c, .int .i64 a] w fun e w' => e = .returned (.int .i64 (refByte i o r flash input xs.reverse a)) ∧ Below w.heap.size w w' := by
  have HFN := Lib.hid (fun a n write (ha : a ≤ 9223372036854775807) W => ref07_find i o r flash input a n write hr hck ha W)
  obtain ⟨g1, g2, g3, g4⟩ := check_ok hck
  have hfs : (flash.size : Int) ≤ 262144 := by omega
  have his : (input.size : Int) ≤ 65536 := by omega
  have HA := Lib.hid hA
  have HI := Lib.hid hI
  unfold startVal at HFN ⊢
  have HCK := Lib.hid hck
  clear hr hck hin hA hI g1 g2 g3 g4
  go_enter Try.func52, Try.ntmps52
  go_wp2_with fail
  have hs1 : (w.alloc (.cells #[.int .i64 i, .int .i64 o, .int .i64 r, .string flash, .string input] 63)).heap.size = w.heap.size + 1 := by simp
  have hx1 := heap_alloc_new w (.cells #[.int .i64 i, .int .i64 o, .int .i64 r, .string flash, .string input] 63)
  have hb1 := bnew w (.cells #[.int .i64 i, .int .i64 o, .int .i64 r, .string flash, .string input] 63)
  generalize w.alloc (.cells #[.int .i64 i, .int .i64 o, .int .i64 r, .string flash, .string input] 63) = w1 at *
  have HX1 := Lib.hid hx1
  have HB1 := Lib.hid hb1
  clear hx1 hb1
  go_loopw [7] (fun j wr => ∃ k : Nat, k ≤ xs.length ∧ j = .int .i64 ((k : Int) - 1) ∧ Below w1.heap.size w1 wr ∧ refByte i o r flash input xs.reverse a = refByte i o r flash input (xs.take k).reverse a) (fun j _ => (intOf j + 1).toNat)
  case atStart => exact ⟨xs.length, by omega, by go_num, Below.refl _ _, by rw [List.take_length]⟩
  case round =>
    obtain ⟨k, hk, rfl, hK, hrf⟩ := hrel
    rcases k with _ | k
    · have hx := (hK.block w.heap.size (by omega)).trans HX1.out
      have c3 : wr.cell? ⟨w.heap.size, 3, none⟩ = some (.string flash) := (cell_of_blk hx 3).1
      have c4 : wr.cell? ⟨w.heap.size, 4, none⟩ = some (.string input) := (cell_of_blk hx 4).1
      have HB2 := Lib.hid (bch HB1.out hK)
      rw [List.take_zero] at hrf
      have HRF : Hid (refByte i o r flash input xs.reverse a = baseByte flash input a) := Lib.hid hrf
      clear hK hrf hx
      by_cases hf : a < flash.size
      · have hix := run_index_str flash a ha0 hf
        go_wp2
        go_ret
        exact ⟨ret_int (by rw [HRF.out]; unfold baseByte; rw [if_pos hf, wrap_byte]), HB2.out⟩
      · by_cases hi : 536936448 ≤ a ∧ a < 536936448 + input.size
        · obtain ⟨hi0, hi1⟩ := hi
          have hix := run_index_str input (a - 536936448) (by omega) (by omega)
          go_wp2
          go_ret
          exact ⟨ret_int (by rw [HRF.out]; unfold baseByte; rw [if_neg (by omega), if_pos ⟨hi0, hi1⟩, wrap_byte]), HB2.out⟩
        · have hi2 : a < 536936448 ∨ (536936448 ≤ a ∧ ¬ a < 536936448 + input.size) := by omega
          have HI2 := Lib.hid hi
          clear hi
          rcases hi2 with hi0 | ⟨hi0, hi1⟩
          all_goals
            go_wp2
            go_ret
            exact ⟨ret_int (by rw [HRF.out]; unfold baseByte; rw [if_neg (by omega), if_neg HI2.out]), HB2.out⟩
    · have hlt : k < xs.length := by omega
      have hne : xs ≠ [] := by intro e; rw [e] at hlt; simp at hlt
      obtain ⟨b, off, rfl, hb0, hcell⟩ := HA.out hne
      obtain ⟨c0, c1, c2, c3⟩ := hcell k hlt
      have hcc : ∀ p : Addr, p.block < w.heap.size → wr.cell? p = w.cell? p := fun p hp => (hK.cell (p := p) (by omega)).trans (HB1.out.cell hp)
      have d0 := (hcc ⟨b, off + k * 4, none⟩ hb0).trans c0
      have d1 := (hcc ⟨b, off + k * 4 + 1, none⟩ hb0).trans c1
      have d2 := (hcc ⟨b, off + k * 4 + 2, none⟩ hb0).trans c2
      have d3 := (hcc ⟨b, off + k * 4 + 3, none⟩ hb0).trans c3
      have hxa : (xs.getD k stNone).a ≤ 9223372036854775807 := HI.out _ (by rw [List.getD, List.getElem?_eq_getElem hlt]; exact List.getElem_mem hlt)
      have hx := (hK.block w.heap.size (by omega)).trans HX1.out
      have HS5 : Hid (∀ w', Below wr.heap.size wr w' → (w'.cell? ⟨w.heap.size, 0, none⟩ = some (.int .i64 i) ∧ w'.cell? ⟨w.heap.size, 1, none⟩ = some (.int .i64 o) ∧ w'.cell? ⟨w.heap.size, 2, none⟩ = some (.int .i64 r) ∧ w'.cell? ⟨w.heap.size, 3, none⟩ = some (.string flash) ∧ w'.cell? ⟨w.heap.size, 4, none⟩ = some (.string input))) := Lib.hid (by
        intro w' hg
        have hx := (hg.block w.heap.size (lt_of_blk hx)).trans hx
        exact ⟨(cell_of_blk hx 0).1, (cell_of_blk hx 1).1, (cell_of_blk hx 2).1, (cell_of_blk hx 3).1, (cell_of_blk hx 4).1⟩)
      have hrv : (xs.take (k + 1)).reverse = xs.getD k stNone :: (xs.take k).reverse := by rw [st_take xs k hlt, List.reverse_append]; rfl
      rw [hrv] at hrf
      generalize xs.getD k stNone = x at *
      have HRF := Lib.hid hrf
      have ej : (((k + 1 : Nat) : Int) - 1) = (k : Int) := by omega
      rw [ej]
      have hNO : ¬ hitB i o r flash.size x a → refByte i o r flash input xs.reverse a = refByte i o r flash input (xs.take k).reverse a := by
        intro hh; rw [hrf]; show (if hitB i o r flash.size x a then _ else _) = _; rw [if_neg hh]
      have hYES : hitB i o r flash.size x a → refByte i o r flash input xs.reverse a = stByte x a := by
        intro hh; rw [hrf]; show (if hitB i o r flash.size x a then _ else _) = _; rw [if_pos hh]
      have HNO := Lib.hid hNO
      have HYES := Lib.hid hYES
      obtain ⟨xk, xa, xn, xv⟩ := x
      simp only at d0 d1 d2 d3 hxa
      have HK := Lib.hid hK
      have k0 : (0 : Int) ≤ (k : Int) := by omega
      have k1 : (k : Int) < (xs.length : Int) := by omega
      clear hcell c0 c1 c2 c3 hcc hx hrf hrv ej hNO hYES hne
      by_cases hk0 : xk = 0
      · subst hk0
        clear hK
        go_wp2
        go_roundw
        case rel => exact ⟨k, by omega, by go_num, bal HK.out _, HNO.out (by unfold hitB; simp)⟩
        case measure => simp [intOf]
      · have hq : (xk != 0) = true := by rw [bne_iff_ne]; exact hk0
        by_cases h1 : xa ≤ a
        · by_cases h2 : wrap64 (a - xa) < xn
          · obtain ⟨e0, e1, e2, e3, e4⟩ := HS5.out (wr.alloc (.cells #[.int .i64 xk, .int .i64 xa, .int .i64 xn, .int .i64 xv] 76)) (bnew _ _)
            have HSE := Lib.hid (HFN.out xa xn true hxa)
            have hse : storeErr i o r flash.size xa xn = (mmFind (mmRegions i o r flash.size) xa xn true).2 := rfl
            rw [← hse] at HSE
            have HHIT : Hid (storeErr i o r flash.size xa xn = 0 → hitB i o r flash.size ⟨xk, xa, xn, xv⟩ a ∧ 0 ≤ a - xa ∧ a - xa < 4 ∧ wrap64 (a - xa) = a - xa) := Lib.hid (by
              intro h
              obtain ⟨g0, _, g2⟩ := found_range HCK.out (show (mmFind (mmRegions i o r flash.size) xa xn true).2 = 0 from h)
              have e : wrap64 (a - xa) = a - xa := by unfold wrap64; omega
              rw [e] at h2
              exact ⟨⟨hk0, h1, by show a < xa + xn; omega, h⟩, by omega, by omega, e⟩)
            have HMISS : Hid (storeErr i o r flash.size xa xn ≠ 0 → ¬ hitB i o r flash.size ⟨xk, xa, xn, xv⟩ a) := Lib.hid (fun h hh => h hh.2.2.2)
            generalize storeErr i o r flash.size xa xn = se at *
            clear hk0 hse hK
            go_wp2_with fail
            refine (HSE.out _).mono ?_
            rintro e w2 ⟨rfl, hb2⟩
            by_cases hs0 : se = 0
            · subst hs0
              obtain ⟨hh, h4, h5, h6⟩ := HHIT.out rfl
              have hret := HYES.out hh
              have hz : stByte ⟨xk, xa, xn, xv⟩ a = ((strAt (wBytes xv) (a - xa).toNat).toNat : Int) := by
                unfold strAt stByte
                rw [wBytes_list, w_byte xv (a - xa).toNat (by omega), byte_cast, wd_cast]
              have h7 : IntKind.i64.wrap (a - xa) = a - xa := by rw [wrapi64]; exact h6
              have HBY := Lib.hid (fun W => ref_Bytes xv W)
              have t1 : a - xa < ((wBytes xv).size : Int) := by rw [wBytes_size]; omega
              generalize wBytes xv = T at *
              have t2 : (a - xa).toNat < T.size := by omega
              have HZ := Lib.hid hz
              have HRET := Lib.hid hret
              have hx2 := (hb2.block wr.heap.size (by simp)).trans (heap_alloc_new wr _)
              have HB2 := Lib.hid (bal HK.out (.cells #[.int .i64 xk, .int .i64 xa, .int .i64 xn, .int .i64 xv] 76) |> fun h => bch h hb2)
              have HS2 : Hid (∀ w', Below w2.heap.size w2 w' → w'.cell? ⟨wr.heap.size, 1, none⟩ = some (.int .i64 xa) ∧ w'.cell? ⟨wr.heap.size, 3, none⟩ = some (.int .i64 xv) ∧ Below w2.heap.size w2 w') := Lib.hid (fun w' hg => by
                have hx := (hg.block _ (lt_of_blk hx2)).trans hx2
                exact ⟨(cell_of_blk hx 1).1, (cell_of_blk hx 3).1, hg⟩)
              have hwz := Below.refl w2.heap.size w2
              clear hb2 e0 e1 e2 e3 e4 d0 d1 d2 d3 hz hret hx2 hh
              go_wp2_with fail
              go_region_held3 (fun w' => w'.cell? ⟨wr.heap.size, 1, none⟩ = some (.int .i64 xa) ∧ w'.cell? ⟨wr.heap.size, 3, none⟩ = some (.int .i64 xv) ∧ Below w2.heap.size w2 w')
                (exact HS2.out _ (by first | assumption | exact bdrawn1 (by assumption)))
                ((go_at_call 56; refine (HBY.out _).mono ?_; rintro e w3 ⟨rfl, hb3⟩; have G3 : Below w2.heap.size w2 w3 := bch (by first | exact Below.refl _ _ | exact bdrawn1 (Below.refl _ _) | assumption) hb3))
              have HB3 := Lib.hid (bch HB2.out G3)
              clear hb3 G3
              go_wp2
              go_ret
              exact ⟨ret_int (by rw [HRET.out, HZ.out, wrapi64, wrap_byte]; unfold strAt; rw [List.getD_eq_getElem?_getD, List.getElem?_eq_getElem (by rw [Array.length_toList, ByteArray.size_data]; exact t2)]; rfl), bch HB1.out HB3.out⟩
            · have hs1 : (se == 0) = false := by rw [beq_eq_false_iff_ne]; exact hs0
              have HB2 := Lib.hid (bal HK.out (.cells #[.int .i64 xk, .int .i64 xa, .int .i64 xn, .int .i64 xv] 76) |> fun h => bch h hb2)
              have HN := Lib.hid (HNO.out (HMISS.out hs0))
              clear hb2 hs0
              go_wp2
              go_roundw
              case rel => exact ⟨k, by omega, by go_num, HB2.out, HN.out⟩
              case measure => simp [intOf]
          · have HN : Hid (refByte i o r flash input xs.reverse a = refByte i o r flash input (xs.take k).reverse a) := Lib.hid (HNO.out (by
              rintro ⟨_, _, g1, g2⟩
              obtain ⟨g0, _, g2⟩ := found_range HCK.out (show (mmFind (mmRegions i o r flash.size) xa xn true).2 = 0 from g2)
              have e : wrap64 (a - xa) = a - xa := by unfold wrap64; omega
              rw [e] at h2
              simp only at g1
              omega))
            clear hk0 hK
            go_wp2
            go_roundw
            case rel => exact ⟨k, by omega, by go_num, bal HK.out _, HN.out⟩
            case measure => simp [intOf]
        · have HN : Hid (refByte i o r flash input xs.reverse a = refByte i o r flash input (xs.take k).reverse a) := Lib.hid (HNO.out (fun hh => h1 hh.2.1))
          clear hk0 hK
          go_wp2
          go_roundw
          case rel => exact ⟨k, by omega, by go_num, bal HK.out _, HN.out⟩
          case measure => simp [intOf]
end Go.Proofs.Ytgipelnjbpkfjaa
