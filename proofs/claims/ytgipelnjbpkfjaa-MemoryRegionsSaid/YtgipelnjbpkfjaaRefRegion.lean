/- Contract of the document's Region. No condition but those that each theorem names. -/
import Derived.Test.YtgipelnjbpkfjaaRefPlay
import Derived.Lib.UnsafeStr
namespace Go.Proofs.Ytgipelnjbpkfjaa
open Go.RowKit
def rBytes (F : Int → Int) (b : Int) (j : Nat) : List UInt8 := (List.range j).map fun t => UInt8.ofNat (F (b + (t : Nat))).toNat
theorem rBytes_len (F : Int → Int) (b : Int) (j : Nat) : (rBytes F b j).length = j := by unfold rBytes; simp
theorem rBytes_get (F : Int → Int) (b : Int) (j t : Nat) (h : t < (rBytes F b j).length) : (rBytes F b j)[t] = UInt8.ofNat (F (b + (t : Nat))).toNat := by simp [rBytes]
theorem rBytes_succ (F : Int → Int) (b : Int) (j : Nat) (h : 0 ≤ F (b + j) ∧ F (b + j) < 256) : Lib.byteCells (rBytes F b (j + 1)) = Lib.byteCells (rBytes F b j) ++ [.int .u8 (F (b + j))] := by
  unfold rBytes Lib.byteCells
  rw [List.range_succ, List.map_append, List.map_append]
  congr 1
  simp only [List.map_cons, List.map_nil, UInt8.toNat_ofNat']
  rw [show (((F (b + j)).toNat % 2 ^ 8 : Nat) : Int) = F (b + j) by omega]
theorem rg_ref (i o r : Int) (flash input : ByteArray) (xs : List St) (hck : mmCheck i o r flash.size = 0) (hin : (input.size : Int) = i) (k : Nat) (hk : k < 7) :
    (⟨(rBytes (fun b => refByte i o r flash input xs.reverse b) (rgNth i o r flash.size k).base (rgLen i o r flash.size k)).toArray⟩ : ByteArray) = rgBytes i o r flash.size (playBs i o r flash.size (startBs i o r flash input) xs) k := by
  have hl := play_len i o r flash input hck hin xs
  have hle := rgOff_le i o r flash.size k hk
  have hc := (rgLen_cast i o r flash.size hck k hk).1
  change (playBs i o r flash.size (startBs i o r flash input) xs).length = _ at hl
  unfold rgBytes
  congr 2
  have h := fun (t : Nat) (ht : (t : Int) < (rgNth i o r flash.size k).len) => rg_byte i o r flash.size (playBs i o r flash.size (startBs i o r flash input) xs) hck k t hk ht
  have h2 := fun (t : Nat) (ht : (t : Int) < (rgNth i o r flash.size k).len) => ref_one i o r ((rgNth i o r flash.size k).base + t) flash input xs hck hin (h t ht).1
  generalize playBs i o r flash.size (startBs i o r flash input) xs = bs at *
  apply List.ext_getElem
  · rw [rBytes_len, List.length_take, List.length_drop]; omega
  · intro t h3 h4
    rw [rBytes_get]
    rw [rBytes_len] at h3
    have h5 := (h t (by omega)).2
    rw [h2 t (by omega)] at h5
    have h6 := (Prod.ext_iff.1 h5).1
    simp only at h6
    rw [h6, List.getElem_take, List.getElem_drop, Int.toNat_natCast, UInt8.ofNat_toNat, List.getD_eq_getElem?_getD, List.getElem?_eq_getElem (by omega)]
    rfl
theorem run_make_cap (n : Nat) (hn : n ≤ 2000000) (W : World) : (Instr.makeSlice 60 (.int .i64 0) (.int .i64 (n : Int))).run Try.prog W = .ok (.slice (some ⟨W.heap.size, 0, none⟩) 0 n) (W.alloc (.cells (byteVals (List.replicate n 0)) 5)) := by
  obtain ⟨i0, hi, hz0, hz1, hz2⟩ := info_parts byte_info
  have h := run_make (P := Try.prog) W 60 5 i0 (.int .u8 0) Try.underlying60 hi hz0 .i64 .i64 0 (n : Int) (by omega) (by omega) (by rw [hz2]; omega) (by omega)
  rw [hz1] at h
  simp only [Int.toNat_natCast, Int.toNat_zero] at h
  rw [made_bytes] at h
  exact h
theorem run_append_byte (w : World) (base : Nat) (v : Value) (n : Nat) (ys : List Value) (hown : w.ownsRow base 5 1 v n ys) (y : Int) (hn : n ≤ 1000000) (hbase : base ≤ w.heap.size) :
    ∃ v' w', (Builtin.append_ #[60, 60] 60 #[v, .slice (some ⟨w.heap.size, 0, none⟩) 1 1]).run Try.prog (w.alloc (.cells #[.int .u8 y] 5)) = .ok v' w' ∧
      w'.ownsRow base 5 1 v' (n + 1) (ys ++ [.int .u8 y]) ∧ (w.alloc (.cells #[.int .u8 y] 5)).grownBy w' v.ownBlock := by
  obtain ⟨i0, hi, hz0, hz1, hz2⟩ := info_parts byte_info
  obtain ⟨v', w', h1, h2, h3, _, _⟩ := run_append_own_at (P := Try.prog) (w.alloc (.cells #[.int .u8 y] 5)) base 60 60 5 i0 _ 1 1 Try.underlying60 hi hz0 hz1 hz2 rfl (by omega) v n ys (hown.alloc _) ⟨w.heap.size, 0, none⟩ 1 1 [.int .u8 y] rfl (World.news_of_block (heap_alloc_new w _)) (by intro u hu; simp at hu; rcases hu with rfl; rfl) (by unfold maxLen; omega) (by omega) (by simp; omega)
  exact ⟨v', w', h1, h2, h3⟩
theorem ref_bstep {w1 wr w2 : World} {v : Value} {k : Nat} {ys : List Value} (hO : wr.ownsRow w1.heap.size 5 1 v k ys) (hK : Below w1.heap.size w1 wr) (hk : k ≤ 1000000) (hb2 : Below wr.heap.size wr w2) (y : Int) :
    ∃ v' w3, (Builtin.append_ #[60, 60] 60 #[v, .slice (some ⟨w2.heap.size, 0, none⟩) 1 1]).run Try.prog (w2.alloc (.cells #[.int .u8 y] 5)) = .ok v' w3 ∧
      w3.ownsRow w1.heap.size 5 1 v' (k + 1) (ys ++ [.int .u8 y]) ∧ Below w1.heap.size w1 w2 ∧ Below w1.heap.size w1 (w2.alloc (.cells #[.int .u8 y] 5)) ∧ Below w1.heap.size w1 w3 := by
  have hO2 := hO.kept (row := none) ⟨hb2.os, hb2.tape, hb2.output, hb2.size, fun j hj _ => hb2.block j hj⟩ (by cases hv : v.ownBlock <;> simp)
  have G2 := bch hK hb2
  obtain ⟨v', w3, hrun, ho3, hg3⟩ := run_append_byte w2 w1.heap.size v k ys hO2 y hk G2.size
  have G2a := bal G2 (.cells #[.int .u8 y] 5)
  exact ⟨v', w3, hrun, ho3, G2, G2a, G2a.grown hg3 G2a.size (fun j e => (hO2.lt j e).1)⟩
theorem own_form {w : World} {base t : Nat} {v : Value} {n : Nat} {ys : List Value} (h : w.ownsRow base t 1 v (n + 1) ys) : ∃ g cap, v = .slice (some ⟨g, 0, none⟩) (n + 1) cap := by
  rcases h.2 with ⟨_, h2⟩ | ⟨g, cap, cur, rfl, _⟩
  · omega
  · exact ⟨g, cap, rfl⟩
theorem rgc_at (i o r f : Int) (k : Nat) (hk : k < 7) : (rgCells i o r f)[k * 3]? = some (.int .i64 (rgNth i o r f k).base) ∧ (rgCells i o r f)[k * 3 + 1]? = some (.int .i64 (rgNth i o r f k).len) := by
  have e : k = 0 ∨ k = 1 ∨ k = 2 ∨ k = 3 ∨ k = 4 ∨ k = 5 ∨ k = 6 := by omega
  rcases e with rfl | rfl | rfl | rfl | rfl | rfl | rfl <;> exact ⟨rfl, rfl⟩
set_option maxRecDepth 100000 in
set_option maxHeartbeats 4000000 in
theorem ref07_Region (i o r : Int) (flash input : ByteArray) (A : Option Addr) (c : Nat) (xs : List St) (k : Nat) (hk : k < 7) (hr : -9223372036854775808 ≤ r ∧ r ≤ 9223372036854775807) (hck : mmCheck i o r flash.size = 0) (hin : (input.size : Int) = i) (hI : ∀ x ∈ xs, x.a ≤ 9223372036854775807) (hn : xs.length ≤ 100) (w : World) (hA : StSl w w.heap.size A xs) :
    Calls Try.prog 37 #[startVal i o r flash input, .slice A xs.length c, .int .i64 (k : Int)] w fun e w' => e = .returned (.string (rgBytes i o r flash.size (playBs i o r flash.size (startBs i o r flash input) xs) k)) ∧ Below w.heap.size w w' := by
  rw [← rg_ref i o r flash input xs hck hin k hk]
  have HRG := Lib.hid (fun W => ref05_Regions_yes i o r flash.size hr hck W)
  have HBT := Lib.hid (fun b (h0 : 0 ≤ b) (h1 : b ≤ 1099511627776) W h => ref07_byteAt i o r flash input A c xs b hr hck hin h0 h1 hI (by omega) W h)
  have hrc := rgc_at i o r flash.size k hk
  obtain ⟨hlc, hll⟩ := rgLen_cast i o r flash.size hck k hk
  have HRNG := Lib.hid (fun (j : Nat) (hj : (j : Int) < (rgNth i o r flash.size k).len) => found_range hck (rg_byte i o r flash.size [] hck k j hk hj).1)
  have hfine := (fine_of i o r flash.size hck) (rgNth i o r flash.size k) (by
    unfold rgNth
    have hlt : k < (mmRegions i o r flash.size).length := hk
    rw [List.getD, List.getElem?_eq_getElem hlt]; exact List.getElem_mem hlt)
  have hb0 := hfine.1
  have hb1 := hfine.2.1
  have HA := Lib.hid hA
  have HRB := Lib.hid (fun b => refByte_range i o r flash input b xs.reverse)
  generalize refByte i o r flash input xs.reverse = F at *
  generalize (rgNth i o r flash.size k).base = rb at *
  generalize hL : rgLen i o r flash.size k = L at *
  rw [← hlc] at hrc HRNG
  have HRC := Lib.hid hrc
  unfold startVal at *
  have k0 : (0 : Int) ≤ (k : Int) := by omega
  have k7 : (k : Int) < 7 := by omega
  clear hr hck hin hA hI hfine hL hlc hrc
  go_enter Try.func37, Try.ntmps37
  go_wp2_with fail
  refine (HRG.out _).mono ?_
  rintro e w2 ⟨g, rfl, hg, hge, hb⟩
  have hx := (hb.block w.heap.size (by simp)).trans (heap_alloc_new w _)
  have HX := Lib.hid hx
  have HG := Lib.hid hg
  have HB := Lib.hid (bch ((Below.refl _ _).alloc (Nat.le_refl _) _) hb)
  have d1 : w2.cell? ⟨g, k * 3 + 1, none⟩ = some (.int .i64 (L : Int)) := (cell_of_blk hg (k * 3 + 1)).1.trans HRC.out.2
  have hmk := run_make_cap L (by omega)
  clear hb hx hg hge
  go_wp2_with fail
  have hmadeA : (w2.alloc (.cells (byteVals (List.replicate L 0)) 5)).ownsRow w2.heap.size 5 1 (.slice (some ⟨w2.heap.size, 0, none⟩) 0 L) 0 [] := World.ownsRow_made w2 _ L (Nat.le_refl _) (by unfold maxLen; omega) (by simp [byteVals])
  have hmadeB : Below w2.heap.size w2 (w2.alloc (.cells (byteVals (List.replicate L 0)) 5)) := bnew _ _
  have HMA := Lib.hid hmadeA
  have HMB := Lib.hid hmadeB
  clear hmadeA hmadeB d1 hmk
  go_loopw [9, 10] (fun v j wr => ∃ n : Nat, n ≤ L ∧ j = .int .i64 n ∧ Below w2.heap.size w2 wr ∧ wr.ownsRow w2.heap.size 5 1 v n (Lib.byteCells (rBytes F rb n)) ∧ ∃ g2 cap, v = .slice (some ⟨g2, 0, none⟩) n cap) (fun _ j _ => L - (intOf j).toNat)
  case atStart => exact ⟨0, by omega, rfl, HMB.out, HMA.out, w2.heap.size, L, rfl⟩
  case round =>
    obtain ⟨n, hnL, rfl, hK, hO, g2, cap, rfl⟩ := hrel
    have hS : ∀ w', Below w2.heap.size w2 w' → (w'.cell? ⟨w.heap.size, 0, none⟩ = some (.int .i64 i) ∧ w'.cell? ⟨w.heap.size, 1, none⟩ = some (.int .i64 o) ∧ w'.cell? ⟨w.heap.size, 2, none⟩ = some (.int .i64 r) ∧ w'.cell? ⟨w.heap.size, 3, none⟩ = some (.string flash) ∧ w'.cell? ⟨w.heap.size, 4, none⟩ = some (.string input) ∧
        w'.cell? ⟨g, k * 3, none⟩ = some (.int .i64 rb) ∧ w'.cell? ⟨g, k * 3 + 1, none⟩ = some (.int .i64 (L : Int)) ∧ Below w2.heap.size w2 w') := by
      intro w' hg
      have hx := (hg.block _ (lt_of_blk HX.out)).trans HX.out
      have hy := (hg.block _ (lt_of_blk HG.out)).trans HG.out
      exact ⟨(cell_of_blk hx 0).1, (cell_of_blk hx 1).1, (cell_of_blk hx 2).1, (cell_of_blk hx 3).1, (cell_of_blk hx 4).1, (cell_of_blk hy (k * 3)).1.trans HRC.out.1, (cell_of_blk hy (k * 3 + 1)).1.trans HRC.out.2, hg⟩
    have HS := Lib.hid hS
    obtain ⟨_, _, _, _, _, d0, d1, _⟩ := hS wr hK
    by_cases hlt : n < L
    · have n1 : (n : Int) < (L : Int) := by omega
      have n0 : (0 : Int) ≤ (n : Int) := by omega
      obtain ⟨r0, r1, _⟩ := HRNG.out n (by omega)
      have e1 : IntKind.i64.wrap (rb + n) = rb + n := by rw [wrapi64]; unfold wrap64; omega
      have HSL : Hid (∀ w', Below w2.heap.size w2 w' → StSl w' w'.heap.size A xs) := Lib.hid (fun w' hg => (HA.out.below (bch HB.out hg) (Nat.le_refl _)).more (bch HB.out hg).size)
      have HC := Lib.hid (HBT.out (rb + n) r0 (by omega))
      have hr2 := HRB.out (rb + n)
      have HSUC := Lib.hid (rBytes_succ F rb n hr2)
      obtain ⟨y0, y1⟩ := hr2
      generalize F (rb + n) = y at *
      generalize Lib.byteCells (rBytes F rb n) = ys at *
      have e2 : IntKind.u8.wrap y = y := by show y % 256 = y; omega
      have HSTEP : Hid (∀ w3, Below wr.drew.heap.size wr.drew w3 → _) := Lib.hid (fun w3 hg2 => ref_bstep (w2 := w3) hO hK (by omega) (show Below wr.heap.size wr w3 from ⟨hg2.os, hg2.tape, hg2.output, hg2.size, hg2.block⟩) y)
      have hw0 := hK
      clear hS hO hK
      go_wp2_with fail
      go_region_held3 (fun w' => w'.cell? ⟨w.heap.size, 0, none⟩ = some (.int .i64 i) ∧ w'.cell? ⟨w.heap.size, 1, none⟩ = some (.int .i64 o) ∧ w'.cell? ⟨w.heap.size, 2, none⟩ = some (.int .i64 r) ∧ w'.cell? ⟨w.heap.size, 3, none⟩ = some (.string flash) ∧ w'.cell? ⟨w.heap.size, 4, none⟩ = some (.string input) ∧
          w'.cell? ⟨g, k * 3, none⟩ = some (.int .i64 rb) ∧ w'.cell? ⟨g, k * 3 + 1, none⟩ = some (.int .i64 (L : Int)) ∧ Below w2.heap.size w2 w')
        (exact HS.out _ (by first | assumption | exact bdrawn1 (by assumption)))
        (first
          | (go_at_call 52; refine (HC.out _ (HSL.out _ (by first | assumption | exact bdrawn1 (by assumption)))).mono ?_; rintro e w3 ⟨rfl, hg2⟩; obtain ⟨v', w4, hrun, ho3, G2, G2a, G3⟩ := HSTEP.out w3 hg2)
          | (refine step_app rfl (.tmp 35) (.tmp 47) 60 (by rfl) hrun (by rfl) (by rfl) ?_))
      have HPR := Lib.hid (show Below w2.heap.size w2 w4 ∧ w4.ownsRow w2.heap.size 5 1 v' (n + 1) (Lib.byteCells (rBytes F rb (n + 1))) from ⟨G3, by rw [HSUC.out]; exact ho3⟩)
      clear hrun ho3 G2 G2a G3 hg2 hw0 d0 d1
      go_wp2_with fail
      go_roundw
      case rel => exact ⟨n + 1, by omega, by go_num, HPR.out.1, HPR.out.2, own_form HPR.out.2⟩
      case measure => simp [intOf]; omega
    · obtain rfl : n = L := by omega
      have hcv : (convert 60 9 (.slice (some ⟨g2, 0, none⟩) n cap)).run Try.prog wr = .ok (.string ⟨(rBytes F rb n).toArray⟩) wr := by
        have hlen := rBytes_len F rb n
        generalize rBytes F rb n = lb at *
        have := run_convert_bytes_back (P := Try.prog) wr 60 9 5 ⟨g2, 0, none⟩ cap lb Try.underlying60 Try.underlying5 Try.underlying9 (by
          intro j hj
          have ha : ((⟨g2, 0, none⟩ : Addr).add j) = ⟨g2, j, none⟩ := by
            unfold Addr.add; split
            · rename_i h; simp
            · simp
          rw [ha, hO.cellAt j (by omega)]
          unfold Lib.byteCells
          simp [hj])
        rw [hlen] at this
        exact this
      have HBF := Lib.hid (bch HB.out hK)
      clear hS hO hK
      go_wp2_with fail
      go_ret
      exact ⟨rfl, HBF.out⟩
end Go.Proofs.Ytgipelnjbpkfjaa
