/- Contracts of a memory's Load, Store and Region. No condition but those that each theorem names. -/
import Derived.Test.YtgipelnjbpkfjaaMem
import Derived.Lib.BufferWrite
import Derived.OwnWalk
import Derived.RegionTactic
namespace Go.Proofs.Ytgipelnjbpkfjaa
open Go.RowKit

theorem byteVals_at (bs : List UInt8) (q : Nat) (h : q < bs.length) : (byteVals bs)[q]? = some (.int .u8 ((bs.getD q 0).toNat : Int)) := by
  unfold byteVals
  simp [List.getD, List.getElem?_eq_getElem h]
theorem MemAt.byte {w : World} {M gb : Nat} {i o r f : Int} {bs : List UInt8} (h : MemAt w M gb i o r f bs) (q : Nat) (hq : q < rgAll i o r f) : w.cell? ⟨gb, q, none⟩ = some (.int .u8 ((bs.getD q 0).toNat : Int)) := by
  obtain ⟨gl, gs, cap, cs, h1, h2, h3, h4, h5, h6, h7⟩ := h
  exact ((cell_of_blk h5 q).1).trans (byteVals_at bs q (by omega))
theorem mem_Load_nil (a n : Int) (w : World) : Calls Try.prog 33 #[.pointer none, .int .i64 a, .int .i64 n] w fun e w' => e = .returned (.tuple #[.int .i64 0, .int .i64 1]) ∧ w = w' := by
  go_enter Try.func33, Try.ntmps33
  go_wp2_with (go_at_call 51; refine (mem_find_nil _ _ _ _).mono ?_; rintro e w' ⟨rfl, rfl⟩)
  go_ret2
  exact ⟨rfl, rfl⟩
theorem mem_Load_no (M gb : Nat) (i o r f a n : Int) (bs : List UInt8) (hck : mmCheck i o r f = 0) (ha : a ≤ 9223372036854775807) (he : (mmFind (mmRegions i o r f) a n false).2 ≠ 0) (w : World) (h : MemAt w M gb i o r f bs) :
    Calls Try.prog 33 #[.pointer (some ⟨M, 0, none⟩), .int .i64 a, .int .i64 n] w fun e w' => e = .returned (.tuple #[.int .i64 0, .int .i64 (mmFind (mmRegions i o r f) a n false).2]) ∧ Below w.heap.size w w' := by
  have HF := Lib.hid (mem_find_no M gb i o r f a n false bs hck ha he w h)
  have hq : ((mmFind (mmRegions i o r f) a n false).2 != 0) = true := by rw [bne_iff_ne]; exact he
  generalize (mmFind (mmRegions i o r f) a n false).2 = e0 at *
  clear he h hck
  go_enter Try.func33, Try.ntmps33
  go_wp2_with fail
  refine HF.out.mono ?_
  rintro e w2 ⟨rfl, hb⟩
  go_wp2_with fail
  go_ret2
  exact ⟨rfl, hb⟩
theorem or_zero (b : UInt8) : bits .or .i64 0 (wrap64 (wrap64 (b.toNat : Int))) = (b.toNat : Int) := by
  have h := of_eq b 0 0 0
  have e : le4 b 0 0 0 = b.toNat := by unfold le4; simp
  rw [e] at h
  have hb := b.toNat_lt
  have h1 := or_add 0 b.toNat 0 (by decide) (Nat.mod_one _) (by omega) (by omega) (by omega)
  rw [wrap64_nat _ (by omega), wrap64_nat _ (by omega)]
  simpa using h1
theorem mem_Load1 (M gb : Nat) (i o r f a : Int) (bs : List UInt8) (hck : mmCheck i o r f = 0) (ha : a ≤ 9223372036854775807) (k p : Nat) (hacc : Access i o r f a 1 false k p) (w : World) (h : MemAt w M gb i o r f bs) :
    Calls Try.prog 33 #[.pointer (some ⟨M, 0, none⟩), .int .i64 a, .int .i64 1] w fun e w' =>
    e = .returned (.tuple #[.int .i64 ((bs.getD (rgOff i o r f k + p) 0).toNat : Int), .int .i64 0]) ∧ Below w.heap.size w w' := by
  have HF := Lib.hid (mem_find_yes M gb i o r f a 1 false bs hck ha k p hacc w h)
  have HM := Lib.hid h
  have hle := rgOff_le i o r f k hacc.2.1
  have hlt : rgOff i o r f k + p < rgAll i o r f := by
    have h1 := hacc.2.2.2.1
    have hlen : rgLen i o r f k = (rgNth i o r f k).len.toNat := rfl
    omega
  have HQ := Lib.hid (fun (w' : World) (h' : MemAt w' M gb i o r f bs) => h'.byte _ hlt)
  generalize rgOff i o r f k + p = q at *
  generalize bs.getD q 0 = x0 at *
  clear h hck hle hlt hacc
  go_enter Try.func33, Try.ntmps33
  go_wp2_with fail
  refine HF.out.mono ?_
  rintro e w2 ⟨rfl, hb⟩
  have c0 := HQ.out w2 (HM.out.below hb)
  have HB := Lib.hid hb
  clear hb
  go_wp2_with fail
  refine wp_loop_rounds 2 ?_
  rw [rounds_succ]
  go_wp2_with (rw [rounds_succ])
  go_ret2
  exact ⟨congrArg (fun n => Ending.returned (.tuple #[.int .i64 n, .int .i64 0])) (or_zero x0), HB.out⟩
theorem mem_Load4 (M gb : Nat) (i o r f a : Int) (bs : List UInt8) (hck : mmCheck i o r f = 0) (ha : a ≤ 9223372036854775807) (k p : Nat) (hacc : Access i o r f a 4 false k p) (w : World) (h : MemAt w M gb i o r f bs) :
    Calls Try.prog 33 #[.pointer (some ⟨M, 0, none⟩), .int .i64 a, .int .i64 4] w fun e w' =>
    e = .returned (.tuple #[.int .i64 ((le4 (bs.getD (rgOff i o r f k + p) 0) (bs.getD (rgOff i o r f k + p + 1) 0) (bs.getD (rgOff i o r f k + p + 2) 0) (bs.getD (rgOff i o r f k + p + 3) 0) : Nat) : Int), .int .i64 0]) ∧ Below w.heap.size w w' := by
  have HF := Lib.hid (mem_find_yes M gb i o r f a 4 false bs hck ha k p hacc w h)
  have HM := Lib.hid h
  have hle := rgOff_le i o r f k hacc.2.1
  have hlt : rgOff i o r f k + p + 3 < rgAll i o r f := by
    have h1 := hacc.2.2.2.1
    have hlen : rgLen i o r f k = (rgNth i o r f k).len.toNat := rfl
    omega
  have HQ0 := Lib.hid (fun (w' : World) (h' : MemAt w' M gb i o r f bs) => h'.byte (rgOff i o r f k + p) (by omega))
  have HQ1 := Lib.hid (fun (w' : World) (h' : MemAt w' M gb i o r f bs) => h'.byte (rgOff i o r f k + p + 1) (by omega))
  have HQ2 := Lib.hid (fun (w' : World) (h' : MemAt w' M gb i o r f bs) => h'.byte (rgOff i o r f k + p + 2) (by omega))
  have HQ3 := Lib.hid (fun (w' : World) (h' : MemAt w' M gb i o r f bs) => h'.byte (rgOff i o r f k + p + 3) (by omega))
  generalize rgOff i o r f k + p = q at *
  generalize bs.getD q 0 = x0 at *
  generalize bs.getD (q + 1) 0 = x1 at *
  generalize bs.getD (q + 2) 0 = x2 at *
  generalize bs.getD (q + 3) 0 = x3 at *
  clear h hck hle hlt hacc
  go_enter Try.func33, Try.ntmps33
  go_wp2_with fail
  refine HF.out.mono ?_
  rintro e w2 ⟨rfl, hb⟩
  have c0 := HQ0.out w2 (HM.out.below hb)
  have c1 := HQ1.out w2 (HM.out.below hb)
  have c2 := HQ2.out w2 (HM.out.below hb)
  have c3 := HQ3.out w2 (HM.out.below hb)
  have HB := Lib.hid hb
  clear hb
  go_wp2_with fail
  refine wp_loop_rounds 5 ?_
  rw [rounds_succ]
  go_wp2_with (rw [rounds_succ])
  go_ret2
  exact ⟨congrArg (fun n => Ending.returned (.tuple #[.int .i64 n, .int .i64 0])) (of_eq x0 x1 x2 x3), HB.out⟩
/-- copy of a string's first bytes into a row, from place o on. -/
theorem run_copy_str {P : Program} (w : World) (dT sT ty elem : TypeId) (g o dLen dCap n : Nat) (s : ByteArray) (cur : Array Value) (t : TypeId)
    (hu : P.underlying dT = some (.slice elem)) (hs : (P.info? elem).map (·.size) = some 1) (hg : w.heap[g]? = some (.cells cur t (0, 0))) (hn : Nat.min s.size dLen = n) (hfit : o + n ≤ cur.size) :
    (Builtin.copy_ #[dT, sT] ty #[.slice (some ⟨g, o, none⟩) dLen dCap, .string s]).run P w =
      .ok (goInt n) (w.setRow g (cur.toList.take o ++ Lib.byteCells (s.data.toList.take n) ++ cur.toList.drop (o + n)).toArray) := by
  have hle : n ≤ s.size := by rw [← hn]; exact Nat.min_le_left _ _
  have hsz : s.data.toList.length = s.size := by rw [Array.length_toList, ByteArray.size_data]
  have hlen : (Lib.byteCells (s.data.toList.take n)).length = n := by rw [Lib.byteCells_length, List.length_take, hsz]; omega
  have hst := run_storeCells_at P g o t (Lib.byteCells (s.data.toList.take n)) 0 cur w hg (by rw [hlen]; simpa using hfit) (Lib.byteCells_one _)
  have htk : List.take n (List.map (fun b : UInt8 => Value.int IntKind.u8 (b.toNat : Int)) s.data.toList) = Lib.byteCells (s.data.toList.take n) := by
    rw [← List.map_take]; rfl
  rw [hlen] at hst
  simp only [Nat.add_zero] at hst
  cases hq : P.info? elem with
  | none => simp [hq] at hs
  | some i =>
    simp [Builtin.copy_, run_underlying hu, Builtin.lenOf, Builtin.firstCells, sizeOf, typeInfo, hq, hn]
    rw [htk, hst]
    simp [Result.andThen]
theorem wpList_cpy {P : Program} {w : World} {ops : Array Oper} {rest : List Oper} {o : Oper} {a : Act} {Q : Exit → Act → World → Prop} (hgd : o.guard = none) (d s : Operand) (t t' : TypeId)
    (ho : o.op = .call { callee := .builtin .copy, args := #[d, s], argTypes := #[t, t'] }) {v u v' : Value} {w' : World} (hr : (Builtin.copy_ #[t, t'] o.type #[v, u]).run P w = .ok v' w') (hd : a.eval d = v) (hs : a.eval s = u)
    (h : wpList P ops Q rest (a.put o.dst v') w') : wpList P ops Q (o :: rest) a w := by
  refine wpList_plain hgd fun K hK => ?_
  unfold Oper.wp execOp
  simp only [ho, resolve, invoke, builtin, Sem.run_bind, Sem.run_pure, Result.andThen_ok, List.map_toArray, List.map_cons, List.map_nil, hd, hs, hr]
  exact hK _ _ h
theorem setRow_at {w : World} {g : Nat} {cs cs' : Array Value} {t : TypeId} (h : w.heap[g]? = some (.cells cs t (0, 0))) : (w.setRow g cs').heap[g]? = some (.cells cs' t (0, 0)) := by
  unfold World.setRow
  simp [Array.getElem?_modify, h]
theorem setRow_far {w : World} {g k : Nat} {cs' : Array Value} (h : k ≠ g) : (w.setRow g cs').heap[k]? = w.heap[k]? := by
  unfold World.setRow
  simp only [Array.getElem?_modify]
  rw [if_neg (fun e => h (Eq.symm e))]
theorem setRow_size {w : World} {g : Nat} {cs' : Array Value} : (w.setRow g cs').heap.size = w.heap.size := by unfold World.setRow; simp
/-- Bytes with some of a word's bytes laid from place q on. -/
def putBytes (bs : List UInt8) (q m : Nat) (v : Int) : List UInt8 := bs.take q ++ ((wList v).take m ++ bs.drop (q + m))
theorem putBytes_len (bs : List UInt8) (q m : Nat) (v : Int) (hm : m ≤ 4) (h : q + m ≤ bs.length) : (putBytes bs q m v).length = bs.length := by
  have hw : (wList v).length = 4 := rfl
  unfold putBytes
  simp only [List.length_append, List.length_take, List.length_drop, hw]; omega
theorem mem_Store_nil (a n v : Int) (w : World) : Calls Try.prog 34 #[.pointer none, .int .i64 a, .int .i64 n, .int .i64 v] w fun e w' => e = .returned (.int .i64 1) ∧ w = w' := by
  go_enter Try.func34, Try.ntmps34
  go_wp2_with (go_at_call 51; refine (mem_find_nil _ _ _ _).mono ?_; rintro e w' ⟨rfl, rfl⟩)
  go_ret
  exact ⟨rfl, rfl⟩
theorem mem_Store_no (M gb : Nat) (i o r f a n v : Int) (bs : List UInt8) (hck : mmCheck i o r f = 0) (ha : a ≤ 9223372036854775807) (he : (mmFind (mmRegions i o r f) a n true).2 ≠ 0) (w : World) (h : MemAt w M gb i o r f bs) :
    Calls Try.prog 34 #[.pointer (some ⟨M, 0, none⟩), .int .i64 a, .int .i64 n, .int .i64 v] w fun e w' => e = .returned (.int .i64 (mmFind (mmRegions i o r f) a n true).2) ∧ Below w.heap.size w w' := by
  have HF := Lib.hid (mem_find_no M gb i o r f a n true bs hck ha he w h)
  have hq : ((mmFind (mmRegions i o r f) a n true).2 != 0) = true := by rw [bne_iff_ne]; exact he
  generalize (mmFind (mmRegions i o r f) a n true).2 = e0 at *
  clear he h hck
  go_enter Try.func34, Try.ntmps34
  go_wp2_with fail
  refine HF.out.mono ?_
  rintro e w2 ⟨rfl, hb⟩
  go_wp2_with fail
  go_ret
  exact ⟨rfl, hb⟩
theorem byteVals_list (bs : List UInt8) : (byteVals bs).toList = Lib.byteCells bs := by unfold byteVals Lib.byteCells; simp
set_option maxRecDepth 100000 in
theorem mem_Store_yes (M gb : Nat) (i o r f a v : Int) (m : Nat) (bs : List UInt8) (hck : mmCheck i o r f = 0) (ha : a ≤ 9223372036854775807) (k p : Nat) (hacc : Access i o r f a (m : Int) true k p) (w : World) (h : MemAt w M gb i o r f bs) :
    Calls Try.prog 34 #[.pointer (some ⟨M, 0, none⟩), .int .i64 a, .int .i64 (m : Int), .int .i64 v] w fun e w' =>
    e = .returned (.int .i64 0) ∧ MemAt w' M gb i o r f (putBytes bs (rgOff i o r f k + p) m v) ∧ w.grownBy w' (some gb) := by
  have HF := Lib.hid (mem_find_yes M gb i o r f a m true bs hck ha k p hacc w h)
  have HM := Lib.hid h
  have hle := rgOff_le i o r f k hacc.2.1
  have hm4 : m ≤ 4 := by have := hacc.2.2.2.2; omega
  have hlt : rgOff i o r f k + p + m ≤ rgAll i o r f := by
    have h1 := hacc.2.2.2.1
    have hlen : rgLen i o r f k = (rgNth i o r f k).len.toNat := rfl
    have h2 := hacc.2.2.2.2
    omega
  generalize rgOff i o r f k + p = q at *
  have HLT := Lib.hid hlt
  clear h hck hle hlt hacc
  go_enter Try.func34, Try.ntmps34
  go_wp2_with fail
  refine HF.out.mono ?_
  rintro e w2 ⟨rfl, hb⟩
  have HB := Lib.hid hb
  have HM2 := Lib.hid (HM.out.below hb)
  clear hb
  go_wp2_with fail
  refine (word_Bytes _ _).mono ?_
  rintro e w3 ⟨rfl, hb3⟩
  have HB3 := Lib.hid (bch HB.out hb3)
  obtain ⟨gl, gs, cap, cs, h1, h2, h3, h4, h5, h6, h7⟩ := HM2.out.below hb3
  have hsz : (wBytes v).size = 4 := rfl
  have hcp := run_copy_str (P := Try.prog) w3 60 9 3 5 gb q m (rgAll i o r f - rgOff i o r f k - p) m (wBytes v) (byteVals bs) 5 Try.underlying60 (by kernel_rfl) h5 (by rw [hsz]; exact Nat.min_eq_right hm4)
    (by have e : (byteVals bs).size = bs.length := by unfold byteVals; simp
        rw [e, h6]; exact HLT.out)
  have hX : (List.take q (byteVals bs).toList ++ Lib.byteCells (List.take m (wBytes v).data.toList) ++ List.drop (q + m) (byteVals bs).toList).toArray = byteVals (putBytes bs q m v) := by
    rw [byteVals_list, wBytes_list]
    unfold byteVals putBytes Lib.byteCells
    simp
  rw [hX] at hcp
  have HCP := Lib.hid hcp
  have ne : ∀ {g t} {x : Array Value}, w3.heap[g]? = some (.cells x t (0, 0)) → t ≠ 5 → g ≠ gb := by
    intro g t x h ht e
    subst e
    rw [h] at h5
    injection h5 with h5
    injection h5 with _ h5 _
    exact ht h5
  have hpost : MemAt (w3.setRow gb (byteVals (putBytes bs q m v))) M gb i o r f (putBytes bs q m v) :=
    ⟨gl, gs, cap, cs, (setRow_far (ne h1 (by decide))).trans h1, (setRow_far (ne h2 (by decide))).trans h2, (setRow_far (ne h3 (by decide))).trans h3, h4, setRow_at h5, (putBytes_len bs q m v hm4 (by rw [h6]; exact HLT.out)).trans h6, h7⟩
  have HPOST := Lib.hid hpost
  have hgrow : w.grownBy (w3.setRow gb (byteVals (putBytes bs q m v))) (some gb) :=
    ⟨HB3.out.os, HB3.out.tape, HB3.out.output, by rw [setRow_size]; exact HB3.out.size, fun k hk hne => (setRow_far (fun e => hne (by rw [e]))).trans (HB3.out.block k hk)⟩
  have HGROW := Lib.hid hgrow
  clear hcp hX hpost hgrow h1 h2 h3 h4 h5 h6 h7 hb3 hsz ne
  go_wp2_with (with_reducible refine wpList_cpy rfl (.tmp 21) (.tmp 23) 60 9 rfl HCP.out rfl rfl ?_)
  go_ret
  exact ⟨rfl, HPOST.out, HGROW.out⟩
/-- A region's bytes. -/
def rgBytes (i o r f : Int) (bs : List UInt8) (k : Nat) : ByteArray := ⟨((bs.drop (rgOff i o r f k)).take (rgLen i o r f k)).toArray⟩
theorem mem_Region_nil (k : Int) (w : World) : Calls Try.prog 36 #[.pointer none, .int .i64 k] w fun e w' => e = .returned (.tuple #[.string ⟨#[]⟩, .int .i64 1]) ∧ w = w' := by
  go_enter Try.func36, Try.ntmps36
  go_wp2_with fail
  go_ret2
  exact ⟨rfl, rfl⟩
set_option maxRecDepth 100000 in
theorem mem_Region_no (M gb : Nat) (i o r f k : Int) (bs : List UInt8) (hk : k < 0 ∨ 6 < k) (w : World) (h : MemAt w M gb i o r f bs) :
    Calls Try.prog 36 #[.pointer (some ⟨M, 0, none⟩), .int .i64 k] w fun e w' => e = .returned (.tuple #[.string ⟨#[]⟩, .int .i64 2]) ∧ w = w' := by
  obtain ⟨gl, gs, cap, cs, h1, h2, h3, h4, h5, h6, h7⟩ := h
  have c1 : w.cell? ⟨M, 1, none⟩ = some (.slice (some ⟨gs, 0, none⟩) 7 cap) := (cell_of_blk h1 1).1
  clear h1 h2 h3 h4 h5 h6 h7
  by_cases h0 : k < 0
  · clear hk
    go_enter Try.func36, Try.ntmps36
    go_wp2_with fail
    go_ret2
    exact ⟨rfl, rfl⟩
  · have h6 : 7 ≤ k := by omega
    have h00 : 0 ≤ k := by omega
    clear hk h0
    go_enter Try.func36, Try.ntmps36
    go_wp2_with fail
    go_ret2
    exact ⟨rfl, rfl⟩
set_option maxRecDepth 100000 in
theorem mem_Region_yes (M gb : Nat) (i o r f : Int) (k : Nat) (bs : List UInt8) (hk : k < 7) (w : World) (h : MemAt w M gb i o r f bs) :
    Calls Try.prog 36 #[.pointer (some ⟨M, 0, none⟩), .int .i64 (k : Int)] w fun e w' => e = .returned (.tuple #[.string (rgBytes i o r f bs k), .int .i64 0]) ∧ w = w' := by
  have hbyte := fun q hq => h.byte q hq
  have hle := rgOff_le i o r f k hk
  obtain ⟨gl, gs, cap, cs, h1, h2, h3, h4, h5, h6, h7⟩ := h
  have c1 : w.cell? ⟨M, 1, none⟩ = some (.slice (some ⟨gs, 0, none⟩) 7 cap) := (cell_of_blk h1 1).1
  have c2 := (cell_of_blk h3 k).1.trans (h4 k hk)
  have k0 : (0 : Int) ≤ (k : Int) := by omega
  have k7 : (k : Int) < 7 := by omega
  have hcv : ∀ W, W = w → (convert 60 9 (.slice (some ⟨gb, rgOff i o r f k, none⟩) (rgLen i o r f k) (rgAll i o r f - rgOff i o r f k))).run Try.prog W = .ok (.string (rgBytes i o r f bs k)) W := by
    rintro W rfl
    have hl : ((bs.drop (rgOff i o r f k)).take (rgLen i o r f k)).length = rgLen i o r f k := by rw [List.length_take, List.length_drop]; omega
    have hc : ∀ j (hj : j < ((bs.drop (rgOff i o r f k)).take (rgLen i o r f k)).length), W.cell? ((⟨gb, rgOff i o r f k, none⟩ : Addr).add j) = some (.int .u8 ((((bs.drop (rgOff i o r f k)).take (rgLen i o r f k))[j]).toNat : Int)) := by
      intro j hj
      rw [hl] at hj
      have ha : ((⟨gb, rgOff i o r f k, none⟩ : Addr).add j) = ⟨gb, rgOff i o r f k + j, none⟩ := by
        unfold Addr.add; split
        · rename_i h; simp
        · rfl
      rw [ha, hbyte _ (by omega)]
      have hlt : rgOff i o r f k + j < bs.length := by omega
      simp only [List.getElem_take, List.getElem_drop, List.getD, List.getElem?_eq_getElem hlt, Option.getD_some]
    have := run_convert_bytes_back (P := Try.prog) W 60 9 5 ⟨gb, rgOff i o r f k, none⟩ (rgAll i o r f - rgOff i o r f k) ((bs.drop (rgOff i o r f k)).take (rgLen i o r f k)) Try.underlying60 Try.underlying5 Try.underlying9 hc
    rw [hl] at this
    exact this
  have hcv2 := hcv w rfl
  clear hcv h1 h2 h3 h4 h5 h6 h7 hbyte hle
  go_enter Try.func36, Try.ntmps36
  go_wp2_with fail
  go_ret2
  exact ⟨rfl, rfl⟩
end Go.Proofs.Ytgipelnjbpkfjaa
