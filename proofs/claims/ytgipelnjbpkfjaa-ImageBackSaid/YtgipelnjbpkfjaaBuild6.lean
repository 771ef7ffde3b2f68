/- Contracts of Build of image and of hauberkref06: the image of code, or the error. -/
import Derived.Test.YtgipelnjbpkfjaaFront
import Derived.Test.YtgipelnjbpkfjaaWords6
import Derived.Test.YtgipelnjbpkfjaaImgP
namespace Go.Proofs.Ytgipelnjbpkfjaa
open Go.RowKit

theorem builder_next {T e : TypeId} {B b : Nat} {bs : List Value} {w w' : World} (h : Lib.IsBuilder T e B b bs w) (hb : Below w.heap.size w w') : Lib.IsBuilder T e B b bs w' := by
  have one : ∀ p, Lib.BuilderAt T e B b p bs w → Lib.BuilderAt T e B b p bs w' := by
    rintro p ⟨h1, v, h2, h3, h4⟩
    have hg : w.grownBy w' none := ⟨hb.os, hb.tape, hb.output, hb.size, fun i hi _ => hb.block i hi⟩
    refine ⟨h1, v, (hb.block b (lt_of_blk h2)).trans h2, h3.kept hg ?_, h4⟩
    cases hv : v.ownBlock
    · exact .inl rfl
    · exact .inr (by simp)
  exact h.imp (one _) (one _)
theorem run_index_ints (A : Array Value) (k : Nat) (hk : k < 16) (v : Value) (hv : A[k]? = some v) (w : World) :
    (Instr.index 90 (.agg A) (.int .i64 (k : Int))).run Try.prog w = .ok v w := by
  have h2 : 0 ≤ (k : Int) ∧ (k : Int) < 16 := by omega
  have hs : (sizeOf 3).run Try.prog w = .ok 1 w := by kernel_rfl
  simp [Instr.index, asIntOf, run_underlying Try.underlying90, hk, h2, hs, hv, go_sem]
theorem byteCells_app (s : ByteArray) (l : List UInt8) : Lib.byteCells l ++ Lib.strCells s = Lib.byteCells (l ++ s.data.toList) := by
  rw [Lib.strCells_eq, Lib.byteCells_append]
/-- The state of Build's builder, in block g, that holds this text. -/
def BldRel (w0 : World) (g : Nat) (s : ByteArray) (w : World) : Prop :=
  Lib.IsBuilder 89 5 g g (Lib.byteCells s.data.toList) w ∧ Below w0.heap.size w0 w ∧ w0.heap.size ≤ g ∧ g ≤ w.heap.size
theorem BldRel.next {w0 w w' : World} {g : Nat} {s : ByteArray} (h : BldRel w0 g s w) (hb : Below w.heap.size w w') : BldRel w0 g s w' :=
  ⟨builder_next h.1 hb, bch h.2.1 hb, h.2.2.1, Nat.le_trans h.2.2.2 hb.size⟩
theorem BldRel.put {w0 w w' : World} {g : Nat} {s t : ByteArray} {p : Value} (h : BldRel w0 g s w) (hp : p = .pointer none ∨ p = .pointer (some ⟨g, 0, none⟩))
    (hb : Lib.BuilderAt 89 5 g g p (Lib.byteCells s.data.toList ++ Lib.strCells t) w') (hw : Below g w w') : BldRel w0 g (s ++ t) w' := by
  have e : Lib.byteCells s.data.toList ++ Lib.strCells t = Lib.byteCells (s ++ t).data.toList := by rw [byteCells_app, ByteArray.toList_data_append]
  rw [e] at hb
  refine ⟨?_, h.2.1.trans (hw.mono h.2.2.1), h.2.2.1, Nat.le_trans h.2.2.2 hw.size⟩
  rcases hp with rfl | rfl
  · exact .inl hb
  · exact .inr hb
theorem bld_write (w0 : World) (g : Nat) (s t : ByteArray) (w : World) (h : BldRel w0 g s w) (hl : s.size + t.size ≤ 140737488355328) :
    Calls Try.prog 42 #[.pointer (some ⟨g, 0, none⟩), .string t] w fun e w' => e = .returned (.tuple #[.int .i64 t.size, .nilIface]) ∧ BldRel w0 g (s ++ t) w' := by
  refine (Try.Builder_WriteString g g _ t w h.1 ?_ h.2.2.2).mono ?_
  · rw [Lib.byteCells_length, Array.length_toList, ByteArray.size_data]; exact hl
  · rintro e w' ⟨rfl, h1, h2⟩
    exact ⟨rfl, h.put (.inr rfl) h1 h2⟩
theorem bld_string (w0 : World) (g : Nat) (s : ByteArray) (w : World) (h : BldRel w0 g s w) :
    Calls Try.prog 44 #[.pointer (some ⟨g, 0, none⟩)] w fun e w' => e = .returned (.string s) ∧ Below w0.heap.size w0 w' := by
  refine (Try.Builder_String g g _ w h.1 h.2.2.2).mono ?_
  rintro e w' ⟨rfl, h2⟩
  exact ⟨rfl, h.2.1.trans (h2.mono h.2.2.1)⟩
theorem cat_take (F : List Int) (k : Nat) (hk : k < F.length) : catWords (F.take (k + 1)) = catWords (F.take k) ++ wBytes (F.getD k 0) := by
  rw [List.take_succ_eq_append_getElem hk, catWords_snoc]
  simp [List.getD, List.getElem?_eq_getElem hk]
theorem image_Build_no (h : Hd) (code : ByteArray) (hm : code.size ≤ 1000000) (hc : imgCheck h (64 + code.size : Nat) ≠ 0) (w : World) : Calls Try.prog 23 #[hdVal h, .string code] w fun e w' =>
    e = .returned (.tuple #[.string (imgBuild h code).1, .int .i64 (imgBuild h code).2]) ∧ Below w.heap.size w w' := by
  have hq : (imgCheck h (64 + code.size : Nat) != 0) = true := by rw [bne_iff_ne]; exact hc
  rw [show imgBuild h code = (ByteArray.empty, imgCheck h (64 + code.size : Nat)) by unfold imgBuild; rw [if_pos hc]]
  rw [Int.natCast_add] at *
  generalize hv : imgCheck h ((64 : Nat) + (code.size : Nat) : Int) = v at *
  have HV := Lib.hid hv
  clear hc hv
  obtain ⟨rs, hd, i, o, r, md⟩ := h
  unfold hdVal
  simp only
  go_enter Try.func23, Try.ntmps23
  go_wp2_with fail
  refine (image_check ⟨rs, hd, i, o, r, md⟩ _ _).mono ?_
  rintro e w2 ⟨rfl, hb⟩
  rw [show imgCheck ⟨rs, hd, i, o, r, md⟩ (64 + (code.size : Int)) = v from HV.out]
  go_wp2_with fail
  go_ret2
  exact ⟨rfl, bch ((Below.refl _ _).alloc (Nat.le_refl _) _) hb⟩
set_option maxHeartbeats 1000000 in
theorem image_Build_yes (h : Hd) (code : ByteArray) (hm : code.size ≤ 1000000) (hc : imgCheck h (64 + code.size : Nat) = 0) (w : World) : Calls Try.prog 23 #[hdVal h, .string code] w fun e w' =>
    e = .returned (.tuple #[.string (imgBuild h code).1, .int .i64 (imgBuild h code).2]) ∧ Below w.heap.size w w' := by
  have hfit := fit_of_check h _ hc
  have hfr := front_ref h hfit
  have hR : refFront h 16 = catWords (frontWords h) := by rw [hfr]; rfl
  rw [show imgBuild h code = (refFront h 16 ++ code, 0) by unfold imgBuild; rw [if_neg (by simpa using hc)], hR]
  rw [Int.natCast_add] at *
  have HV := Lib.hid hc
  have hlen : (frontWords h).length = 16 := rfl
  have HL := Lib.hid hlen
  have hF := image_front h
  generalize hfw : frontWords h = F at *
  have HF := Lib.hid hF
  clear hc hfit hfr hR hfw hlen hF
  obtain ⟨rs, hd, i, o, r, md⟩ := h
  unfold hdVal at *
  simp only at HF ⊢
  go_enter Try.func23, Try.ntmps23
  go_wp2_with fail
  refine (image_check ⟨rs, hd, i, o, r, md⟩ _ _).mono ?_
  rintro e w2 ⟨rfl, hb⟩
  rw [show imgCheck ⟨rs, hd, i, o, r, md⟩ (64 + (code.size : Int)) = 0 from HV.out]
  have hx := (hb.block w.heap.size (by simp)).trans (heap_alloc_new w _)
  have hl0 : w.heap.size < w2.heap.size := lt_of_blk hx
  have HB0 := Lib.hid (bch ((Below.refl _ _).alloc (Nat.le_refl _) _) hb)
  have HX := Lib.hid hx
  have c0 := (cell_of_blk hx 0).1
  have c1 := (cell_of_blk hx 1).1
  have c2 := (cell_of_blk hx 2).1
  have c3 := (cell_of_blk hx 3).1
  have c4 := (cell_of_blk hx 4).1
  have c5 := (cell_of_blk hx 5).1
  simp only [List.getElem?_toArray, List.getElem?_cons_zero, List.getElem?_cons_succ] at c0 c1 c2 c3 c4 c5
  clear hb hx
  go_wp2_with fail
  have hbld : BldRel w w2.heap.size (catWords (F.take 0)) (w2.alloc (Obj.cells #[Value.pointer none, Value.slice none 0 0] 89)) :=
    ⟨Lib.fresh_isBuilder 89 5 w2, bal HB0.out _, by omega, by simp⟩
  generalize w2.alloc (Obj.cells #[Value.pointer none, Value.slice none 0 0] 89) = w3 at *
  generalize w2.heap.size = g at *
  clear c0 c1 c2 c3 c4 c5 HX HB0 w2 hl0
  refine (HF.out _).mono ?_
  rintro e w4 ⟨rfl, hb4⟩
  have hr := hbld.next hb4
  have hA : ∀ k, k < 16 → (ints F).toArray[k]? = some (.int .i64 (F.getD k 0)) := by
    intro k hk
    have hlt : k < F.length := by rw [HL.out]; exact hk
    simp [ints, List.getD, List.getElem?_eq_getElem hlt]
  generalize (ints F).toArray = A at *
  have HA := Lib.hid hA
  clear hbld hb4 hA w3
  go_wp2_with fail
  go_loopw [20] (fun j wr => ∃ k : Nat, k ≤ 16 ∧ j = .int .i64 k ∧ BldRel w g (catWords (F.take k)) wr) (fun j _ => 16 - (intOf j).toNat)
  case atStart => exact ⟨0, by omega, rfl, hr⟩
  case round =>
    obtain ⟨k, hk, rfl, hR⟩ := hrel
    clear hr
    by_cases h16 : k < 16
    · have hix := run_index_ints A k h16 _ (HA.out k h16)
      have hsz := catWords_size (F.take k)
      have hln : (F.take k).length ≤ 16 := by rw [List.length_take, HL.out]; omega
      have hs4 := wBytes_size (F.getD k 0)
      have hct := cat_take F k (by rw [HL.out]; exact h16)
      have hle : (catWords (F.take k)).size + (wBytes (F.getD k 0)).size ≤ 140737488355328 := by omega
      have HC := Lib.hid hct
      have HLE := Lib.hid hle
      clear hsz hln hs4 hct hle
      generalize F.getD k 0 = x at *
      go_wp2_with (first | (go_at_call 43; refine (word_Bytes _ _).mono ?_; rintro e w5 ⟨rfl, hb5⟩; have hR2 := hR.next hb5) | (go_at_call 42; refine (bld_write w g _ _ _ hR2 HLE.out).mono ?_; rintro e w6 ⟨rfl, hR3⟩))
      go_roundw
      case rel => exact ⟨k + 1, by omega, by go_num, by rw [HC.out]; exact hR3⟩
      case measure => simp [intOf]; omega
    · obtain rfl : k = 16 := by omega
      have hsz := catWords_size (F.take 16)
      have hln : (F.take 16).length ≤ 16 := by rw [List.length_take, HL.out]; omega
      have hle : (catWords (F.take 16)).size + code.size ≤ 140737488355328 := by omega
      have hft : F.take 16 = F := List.take_of_length_le (by rw [HL.out]; omega)
      have HFT := Lib.hid hft
      have HLE := Lib.hid hle
      clear hsz hln hle hft
      go_wp2_with (first | (go_at_call 42; refine (bld_write w g _ _ _ hR HLE.out).mono ?_; rintro e w6 ⟨rfl, hR3⟩) | (go_at_call 44; refine (bld_string w g _ _ hR3).mono ?_; rintro e w7 ⟨rfl, hb7⟩))
      go_ret2
      exact ⟨congrArg (fun G => Ending.returned (.tuple #[.string (catWords G ++ code), .int .i64 0])) HFT.out, hb7⟩
/-- Build answers so. -/
theorem image_Build (h : Hd) (code : ByteArray) (hm : code.size ≤ 1000000) (w : World) : Calls Try.prog 23 #[hdVal h, .string code] w fun e w' =>
    e = .returned (.tuple #[.string (imgBuild h code).1, .int .i64 (imgBuild h code).2]) ∧ Below w.heap.size w w' := by
  by_cases hc : imgCheck h (64 + code.size : Nat) = 0
  · exact image_Build_yes h code hm hc w
  · exact image_Build_no h code hm hc w
theorem ref06_Build_no (h : Hd) (hr : -9223372036854775808 ≤ h.r ∧ h.r ≤ 9223372036854775807) (code : ByteArray) (hm : code.size ≤ 1000000) (hc : mmCheck h.i h.o h.r (64 + code.size) ≠ 0) (w : World) : Calls Try.prog 25 #[hdVal h, .string code] w fun e w' =>
    e = .returned (.tuple #[.string (imgBuild h code).1, .int .i64 (imgBuild h code).2]) ∧ Below w.heap.size w w' := by
  have hq : (mmCheck h.i h.o h.r (64 + code.size) != 0) = true := by rw [bne_iff_ne]; exact hc
  have hv : imgBuild h code = (ByteArray.empty, mmCheck h.i h.o h.r (64 + code.size)) := by
    have e : imgCheck h (64 + code.size : Nat) = mmCheck h.i h.o h.r (64 + code.size) := by
      rw [Int.natCast_add]; unfold imgCheck; exact if_pos hc
    unfold imgBuild; rw [e, if_pos hc]
  rw [hv]
  obtain ⟨rs, hd, i, o, r, md⟩ := h
  simp only at hq hr
  clear hc hv
  unfold hdVal
  simp only
  go_enter Try.func25, Try.ntmps25
  go_wp2_with fail
  refine (ref05_Check i o r _ hr _).mono ?_
  rintro e w2 ⟨rfl, hb⟩
  go_wp2_with fail
  go_ret2
  exact ⟨rfl, bch ((Below.refl _ _).alloc (Nat.le_refl _) _) hb⟩
theorem ref06_Build_yes (h : Hd) (hr : -9223372036854775808 ≤ h.r ∧ h.r ≤ 9223372036854775807) (code : ByteArray) (hm : code.size ≤ 1000000) (hc : mmCheck h.i h.o h.r (64 + code.size) = 0) (w : World) : Calls Try.prog 25 #[hdVal h, .string code] w fun e w' =>
    e = .returned (.tuple #[.string (imgBuild h code).1, .int .i64 (imgBuild h code).2]) ∧ Below w.heap.size w w' := by
  have HC := Lib.hid hc
  have hv : imgBuild h code = if imgBad h (64 + code.size) then (ByteArray.empty, 2) else (refFront h 16 ++ code, 0) := by
    have e : imgCheck h (64 + code.size : Nat) = if imgBad h (64 + code.size) then 2 else 0 := by
      rw [Int.natCast_add]; unfold imgCheck; exact if_neg (fun x => x hc)
    unfold imgBuild; rw [e]; cases imgBad h (64 + code.size) <;> simp
  have HV : ∀ b, imgBad h (64 + code.size) = b → imgBuild h code = if b then (ByteArray.empty, 2) else (refFront h 16 ++ code, 0) := fun b hb => by rw [hv, hb]
  have hW := ref06_words h
  have hfs : (refFront h 16).size ≤ 64 := by rw [front_size]; exact Nat.le_refl _
  generalize imgBuild h code = V at *
  generalize refFront h 16 = F at *
  have HW := Lib.hid hW
  have HVV := Lib.hid HV
  clear hc hv hW HV
  obtain ⟨rs, hd, i, o, r, md⟩ := h
  simp only at hr HC
  unfold hdVal at *
  simp only at HW ⊢
  go_enter Try.func25, Try.ntmps25
  go_wp2_with fail
  refine (ref05_Check i o r _ hr _).mono ?_
  rintro e w2 ⟨rfl, hb⟩
  rw [show mmCheck i o r (64 + (code.size : Int)) = 0 from HC.out]
  have hx := (hb.block w.heap.size (by simp)).trans (heap_alloc_new w _)
  have c0 := (cell_of_blk hx 0).1
  have c1 := (cell_of_blk hx 1).1
  have c2 := (cell_of_blk hx 2).1
  have c3 := (cell_of_blk hx 3).1
  have c4 := (cell_of_blk hx 4).1
  have c5 := (cell_of_blk hx 5).1
  simp only [List.getElem?_toArray, List.getElem?_cons_zero, List.getElem?_cons_succ] at c0 c1 c2 c3 c4 c5
  have HB := Lib.hid (bch ((Below.refl _ _).alloc (Nat.le_refl _) _) hb)
  clear hb hx
  by_cases m0 : md < 0
  · go_wp2_with fail
    go_ret2
    exact ⟨by rw [HVV.out true (by simp [imgBad, m0])]; rfl, HB.out⟩
  · by_cases m3 : 2 < md
    · go_wp2_with fail
      go_ret2
      exact ⟨by rw [HVV.out true (by simp [imgBad]; omega)]; rfl, HB.out⟩
    · cases p1 : imgPlace rs (64 + code.size)
      · go_wp2_with (go_at_call 45; refine (ref06_place rs _ _).mono ?_; rintro e w' ⟨rfl, rfl⟩; rw [p1])
        go_ret2
        exact ⟨by rw [HVV.out true (by simp [imgBad, p1])]; rfl, HB.out⟩
      · cases p2 : imgPlace hd (64 + code.size)
        · go_wp2_with (go_at_call 45; refine (ref06_place _ _ _).mono ?_; rintro e w' ⟨rfl, rfl⟩; first | rw [p1] | rw [p2])
          go_ret2
          exact ⟨by rw [HVV.out true (by simp [imgBad, p2])]; rfl, HB.out⟩
        · go_wp2_with (first | (go_at_call 45; refine (ref06_place _ _ _).mono ?_; rintro e w' ⟨rfl, rfl⟩; first | rw [p1] | rw [p2]) | (go_at_call 46; refine (HW.out _).mono ?_; rintro e w' ⟨rfl, hb3⟩))
          go_ret2
          exact ⟨by rw [HVV.out false (by simp [imgBad, p1, p2]; omega)]; rfl, bch HB.out hb3⟩
theorem ref06_Build (h : Hd) (hr : -9223372036854775808 ≤ h.r ∧ h.r ≤ 9223372036854775807) (code : ByteArray) (hm : code.size ≤ 1000000) (w : World) : Calls Try.prog 25 #[hdVal h, .string code] w fun e w' =>
    e = .returned (.tuple #[.string (imgBuild h code).1, .int .i64 (imgBuild h code).2]) ∧ Below w.heap.size w w' := by
  by_cases hc : mmCheck h.i h.o h.r (64 + code.size) = 0
  · exact ref06_Build_yes h hr code hm hc w
  · exact ref06_Build_no h hr code hm hc w
end Go.Proofs.Ytgipelnjbpkfjaa
