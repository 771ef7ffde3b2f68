/- Parts of a proof, joined. No condition but those that each theorem names. -/
import Derived.WalkKit
import Derived.OpenShut
import Derived.Below
import Derived.Lib.Hide
import Derived.Laws.OwnMore
import Derived.Deep.QuietTactic
import Derived.Deep.AppendLies
import Derived.ProofKit
import Derived.SizedLaws
import Derived.Test.YthkobddggoojlaaProg
import Derived.Handy
import Derived.Deep.RegionHeld3
import Derived.BigQuiet
import Derived.Maps.AppendAt
import Derived.StillTailTactics
import Derived.Laws.CopyOwn
import Derived.Lib.BufferWrite
import Derived.Test.YthkobddggoojlaaTeG0e2
import Derived.Test.YthkobddggoojlaaTeG2e5
import Derived.Test.YthkobddggoojlaaTeG1e6
import Derived.Test.YthkobddggoojlaaTeG0e9
import Derived.Test.YthkobddggoojlaaTeG0e10
import Derived.Test.YthkobddggoojlaaTeG0e0
import Derived.Test.YthkobddggoojlaaTeG0e1
import Derived.Test.YthkobddggoojlaaTeG0e3
import Derived.Test.YthkobddggoojlaaTeG0e4
import Derived.Test.YthkobddggoojlaaTeIrC
import Derived.Test.YthkobddggoojlaaTeG1ce12
namespace Go.Proofs.Ythkobddggoojlaa
open Go.RowKit
set_option linter.unusedVariables false
def bVals (bs : List UInt8) : Array Value := (bs.map fun b => Value.int .u8 (b.toNat : Int)).toArray
theorem bVals_list (bs : List UInt8) : (bVals bs).toList = Lib.byteCells bs := by unfold bVals Lib.byteCells; simp
theorem bVals_size (bs : List UInt8) : (bVals bs).size = bs.length := by unfold bVals; simp
theorem run_copy_str2 {P : Program} (w : World) (dT sT ty elem : TypeId) (g o dLen dCap n : Nat) (s : ByteArray) (cur : Array Value) (t : TypeId)
    (hu : P.underlying dT = some (.slice elem)) (hs : (P.info? elem).map (·.size) = some 1) (hg : w.heap[g]? = some (.cells cur t (0, 0))) (hn : Nat.min s.size dLen = n) (hfit : o + n ≤ cur.size) :
    (Builtin.copy_ #[dT, sT] ty #[.slice (some ⟨g, o, none⟩) dLen dCap, .string s]).run P w =
      .ok (goInt n) (w.setRow g (cur.toList.take o ++ Lib.byteCells (s.data.toList.take n) ++ cur.toList.drop (o + n)).toArray) := by
  have hle : n ≤ s.size := by rw [← hn]; exact Nat.min_le_left _ _
  have hsz : s.data.toList.length = s.size := by rw [Array.length_toList, ByteArray.size_data]
  have hlen : (Lib.byteCells (s.data.toList.take n)).length = n := by rw [Lib.byteCells_length, List.length_take, hsz]; omega
  have hst := run_storeCells_at P g o t (Lib.byteCells (s.data.toList.take n)) 0 cur w hg (by rw [hlen]; simpa using hfit) (Lib.byteCells_one _)
  have htk : List.take n (List.map (fun b : UInt8 => Value.int IntKind.u8 (b.toNat : Int)) s.data.toList) = Lib.byteCells (s.data.toList.take n) := by
    rw [← List.map_take]; rfl
  rw [hlen] at hst
  simp only [Nat.add_zero] at hst
  cases hq : P.info? elem with
  | none => simp [hq] at hs
  | some i =>
    simp [Builtin.copy_, run_underlying hu, Builtin.lenOf, Builtin.firstCells, sizeOf, typeInfo, hq, hn]
    rw [htk, hst]
    simp [Result.andThen]
theorem step_cpy {P : Program} {ops : Array Oper} {o : Oper} {a : Act} {w : World} {K : Act → World → Prop} {Q : Exit → Act → World → Prop} {E : Prop} (hgd : o.guard = none) (d s : Operand) (t t' : TypeId)
    (ho : o.op = .call { callee := .builtin .copy, args := #[d, s], argTypes := #[t, t'] }) {v u v' : Value} {w' : World} (hd : a.eval d = v) (hs : a.eval s = u) (hr : (Builtin.copy_ #[t, t'] o.type #[v, u]).run P w = .ok v' w')
    (h : K (a.put o.dst v') w') : if Region.wanted o (yielded ops a.tmps) = true then Oper.wp P o a w K Q else E := by
  have hw : Region.wanted o (yielded ops a.tmps) = true := by simp [Region.wanted, hgd]
  rw [if_pos hw]
  unfold Oper.wp execOp
  simp only [ho, resolve, invoke, builtin, Sem.run_bind, Sem.run_pure, Result.andThen_ok, List.map_toArray, List.map_cons, List.map_nil, hd, hs, hr]
  exact h
theorem setRow_at2 {w : World} {g : Nat} {cs cs' : Array Value} {t : TypeId} (h : w.heap[g]? = some (.cells cs t (0, 0))) : (w.setRow g cs').heap[g]? = some (.cells cs' t (0, 0)) := by
  unfold World.setRow
  simp [Array.getElem?_modify, h]
theorem setRow_far2 {w : World} {g k : Nat} {cs' : Array Value} (h : k ≠ g) : (w.setRow g cs').heap[k]? = w.heap[k]? := by
  unfold World.setRow
  simp only [Array.getElem?_modify]
  rw [if_neg (fun e => h (Eq.symm e))]
theorem lay_len (b : List UInt8) (q : Nat) (x : List UInt8) (h : q + x.length ≤ b.length) : (lay b q x).length = b.length := by
  unfold lay; simp; omega
theorem wBytes_len (v : Int) : (wBytes v).data.toList.length = 4 := rfl
theorem outElem_len (a : Arr) (b : List UInt8) (i : Nat) (v : Int) (h4 : a.elem.toNat ≤ 4) (h : a.off.toNat + i * a.elem.toNat + a.elem.toNat ≤ b.length) : (outElem a b i v).length = b.length := by
  unfold outElem
  exact lay_len _ _ _ (by rw [List.length_take, wBytes_len]; omega)
/-- An output's array lies within the output. -/
theorem arrEnd_out (inp out : Int) : ∀ (l : List Arr) (en : Int), 0 ≤ en → (arrEnd inp out l en).isSome = true → ∀ a ∈ l, a.kind = 2 → 0 ≤ a.off ∧ a.off + a.elem * a.len ≤ out
  | [], en, hen, h, a, ha, _ => by simp at ha
  | x :: l, en, hen, h, a, ha, hk => by
    unfold arrEnd at h
    cases hs : arrStep inp out en x with
    | none => rw [hs] at h; simp at h
    | some e =>
      rw [hs] at h
      have hnn := arrStep_nonneg inp out en x hen e hs
      rcases List.mem_cons.1 ha with rfl | ha
      · unfold arrStep at hs
        split at hs
        · cases hs
        · split at hs
          · omega
          · split at hs
            · omega
            · split at hs
              · omega
              · cases hs
      · exact arrEnd_out inp out l e hnn h a ha hk
def outSome (a : Arr) (l : List Int) (b : List UInt8) (n : Nat) : List UInt8 := (List.range n).foldl (fun b i => outElem a b i (l.getD i 0)) b
theorem outSome_succ (a : Arr) (l : List Int) (b : List UInt8) (n : Nat) : outSome a l b (n + 1) = outElem a (outSome a l b n) n (l.getD n 0) := by
  unfold outSome; rw [List.range_succ, List.foldl_append]; rfl
theorem outSome_len (a : Arr) (l : List Int) (b : List UInt8) (h4 : a.elem.toNat ≤ 4) : ∀ n, a.off.toNat + n * a.elem.toNat ≤ b.length → (outSome a l b n).length = b.length
  | 0, _ => rfl
  | n + 1, h => by
    rw [Nat.succ_mul] at h
    have ih := outSome_len a l b h4 n (by omega)
    rw [outSome_succ, outElem_len a _ n _ h4 (by rw [ih]; omega), ih]
theorem outGo_succ (p : Ir) (s : St) (k : Nat) : outGo p s (k + 1) = outArr (p.arrays.getD k arrNone) (s.mem.getD k []) (outGo p s k) := by
  unfold outGo; rw [List.range_succ, List.foldl_append]; rfl
theorem outArr_no {a : Arr} (h : a.kind ≠ 2) (l : List Int) (b : List UInt8) : outArr a l b = b := by unfold outArr; rw [if_neg h]
theorem outArr_yes {a : Arr} (h : a.kind = 2) (l : List Int) (b : List UInt8) : outArr a l b = outSome a l b l.length := by unfold outArr; rw [if_pos h]; rfl
theorem byte_info2 : (Try.prog.info? 5).map (fun i => (i.zero, i.size, i.bytes)) = some (some (.int .u8 0), 1, 1) := by kernel_rfl
theorem made_bytes2 (n : Nat) : madeCells (Value.int .u8 0).cells (n * 1) = bVals (List.replicate n 0) := by
  unfold madeCells bVals
  apply Array.ext_getElem?
  intro j
  by_cases hj : j < n
  · simp [hj, Value.cells, Nat.mod_one]
  · simp [hj]
theorem run_make_bytes2 (n : Nat) (hn : n ≤ 2000000) (W : World) : (Instr.makeSlice 91 (.int .i64 (n : Int)) (.int .i64 (n : Int))).run Try.prog W = .ok (.slice (some ⟨W.heap.size, 0, none⟩) n n) (W.alloc (.cells (bVals (List.replicate n 0)) 5)) := by
  obtain ⟨i0, hi, hz0, hz1, hz2⟩ := info_parts byte_info2
  have h := run_make (P := Try.prog) W 91 5 i0 (.int .u8 0) Try.underlying91 hi hz0 .i64 .i64 (n : Int) (n : Int) (by omega) (by omega) (by rw [hz2]; omega) (by omega)
  rw [hz1] at h
  simp only [Int.toNat_natCast] at h
  rw [made_bytes2] at h
  exact h
/-- A word's bytes, copied into the output's row. -/
theorem run_out_elem (w : World) (g : Nat) (bs : List UInt8) (hg : w.heap[g]? = some (.cells (bVals bs) 5 (0, 0))) (o m cap : Nat) (hm : m ≤ 4) (h : o + m ≤ bs.length) (v : Int) :
    (Builtin.copy_ #[91, 9] 3 #[.slice (some ⟨g, o, none⟩) m cap, .string (wBytes v)]).run Try.prog w = .ok (goInt m) (w.setRow g (bVals (lay bs o ((wBytes v).data.toList.take m)))) := by
  have hsz : (wBytes v).size = 4 := rfl
  rw [run_copy_str2 (P := Try.prog) w 91 9 3 5 g o m cap m (wBytes v) (bVals bs) 5 Try.underlying91 (by kernel_rfl) hg (by rw [hsz]; exact Nat.min_eq_right hm) (by rw [bVals_size]; exact h)]
  congr 2
  rw [bVals_list]
  unfold lay bVals Lib.byteCells
  have hl : ((wBytes v).data.toList.take m).length = m := by rw [List.length_take, wBytes_len]; omega
  rw [hl]
  simp
end Go.Proofs.Ythkobddggoojlaa
namespace Go.Proofs.Ythkobddggoojlaa
open Go.RowKit
set_option linter.unusedVariables false
theorem run_mid (g n q h m : Nat) (h1 : q + m = h) (h2 : h ≤ n) (h3 : 0 < m) (W : World) : (Instr.slice 91 (.slice (some ⟨g, 0, none⟩) n n) (some (.int .i64 (q : Int))) (some (.int .i64 (h : Int))) none).run Try.prog W = .ok (.slice (some ⟨g, q, none⟩) m (n - q)) W := by
  have q0 : (0 : Int) ≤ (q : Int) := by omega
  have q1 : (q : Int) ≤ (h : Int) := by omega
  have q2 : (h : Int) ≤ (n : Int) := by omega
  have q4 : ¬ n = q := by omega
  have q5 : h - q = m := by omega
  simp [go_sem, q0, q1, q2, q4, q5, Addr.add]
  intro h; exact h.symm
set_option maxRecDepth 100000 in
set_option maxHeartbeats 8000000 in
theorem run_output (p : Ir) (AA : Option Addr) (ac : Nat) (bv : Value) (he : irErr p = 0) (B M gt : Nat) (gs : List Nat) (aav : Value) (s : St) (hf : Fit p s) (w : World) (hR : RunAt w B M gt gs aav p (.slice AA p.arrays.length ac) bv s) (hI : SlRep arrEnc w B (.slice AA p.arrays.length ac) p.arrays) :
    Calls Try.prog 30 #[.pointer (some ⟨M, 0, none⟩)] w fun e w' => e = .returned (.string (outP p s)) ∧ Below w.heap.size w w' := by
  obtain ⟨hng, hm⟩ := irErr_ok he
  obtain ⟨⟨⟨hi0, hi1, _⟩, ⟨ho0, ho1, _⟩, hT0, _⟩, hae, _⟩ := hm
  have HALL := Lib.hid (arrEnd_all p.inp p.out p.arrays 0 hae)
  have HOUT := Lib.hid (arrEnd_out p.inp p.out p.arrays 0 (Int.le_refl 0) hae)
  unfold greatP at hng
  obtain ⟨O, hO⟩ : ∃ O : Nat, p.out = (O : Int) := ⟨p.out.toNat, by omega⟩
  have hO1 : O ≤ 65536 := by omega
  have hn1 : p.arrays.length ≤ 1048576 := by have := railSum_nonneg p.arrays; omega
  have hB : B ≤ w.heap.size := by have := lt_of_blk hR.blk; have := hR.bM; omega
  have hgs : gs.length = p.arrays.length := hR.len.trans hf.ml
  have HGS := Lib.hid hgs
  have HML := Lib.hid hf.mlen
  have HR := Lib.hid hR
  have HI := Lib.hid hI
  have hG0 : outGo p s 0 = List.replicate O 0 := by unfold outGo; rw [hO]; rfl
  have HG0 := Lib.hid hG0
  have hmk := run_make_bytes2 O (by omega)
  have HO := Lib.hid hO
  have m4 : w.cell? ⟨M, 4, none⟩ = some (.int .i64 (O : Int)) := by rw [← hO]; exact (cell_of_blk hR.blk 4).1
  have m1 : (w.alloc (.cells (bVals (List.replicate O 0)) 5)).cell? ⟨M, 1, none⟩ = some (.slice AA p.arrays.length ac) := (cell_of_blk (hR.below (bnew w _)).blk 1).1
  have hb1 := bnew w (.cells (bVals (List.replicate O 0)) 5)
  have hx1 := heap_alloc_new w (.cells (bVals (List.replicate O 0)) 5)
  rw [← hG0] at hx1
  clear hng hae hR hI hi0 hi1 ho0 ho1 he hT0 hO hgs hf hG0
  generalize hOP : outP p s = RES
  have HOP := Lib.hid hOP
  clear hOP
  go_enter Try.func30, Try.ntmps30
  go_wp2_with fail
  rw [HG0.out] at hx1
  generalize w.alloc (.cells (bVals (List.replicate O 0)) 5) = w1 at *
  rw [← HG0.out] at hx1
  have HX1 := Lib.hid hx1
  have HB1 := Lib.hid hb1
  clear hx1 hb1 hmk m4 m1
  go_loopw [20] (fun j wr => ∃ k : Nat, k ≤ p.arrays.length ∧ j = .int .i64 k ∧ Below w.heap.size w wr ∧ wr.heap[w.heap.size]? = some (.cells (bVals (outGo p s k)) 5 (0, 0)) ∧ (outGo p s k).length = O) (fun j _ => p.arrays.length - (intOf j).toNat)
  case atStart => exact ⟨0, by omega, rfl, HB1.out, HX1.out, by rw [HG0.out]; simp⟩
  case round =>
    obtain ⟨k, hk, rfl, hB2, hX2, hL2⟩ := hrel
    have HB2 := Lib.hid hB2
    have HX2 := Lib.hid hX2
    have HL2 := Lib.hid hL2
    by_cases hlt : k < p.arrays.length
    · obtain ⟨b, off, rfl, hb0, x0, x1, x2, x3⟩ := arr_at (HI.out.below hB2 hB) k hlt
      obtain ⟨hsh, hkk⟩ := HALL.out _ (getD_memI p.arrays k arrNone hlt)
      have hoo := HOUT.out _ (getD_memI p.arrays k arrNone hlt)
      have hml := HML.out k hlt
      have hGS := outGo_succ p s k
      have hsl := lt_of_blk hX2
      generalize p.arrays.getD k arrNone = ar at *
      obtain ⟨el, ln, ak, o⟩ := ar
      simp only at x0 x1 x2 x3 hoo hml
      obtain ⟨h2, h3, h4⟩ := hsh
      simp only at h2 h3 h4
      have k0 : (0 : Int) ≤ (k : Int) := by omega
      have k1 : (k : Int) < (p.arrays.length : Int) := by omega
      have hbA := bnew wr (.cells #[.int .i64 el, .int .i64 ln, .int .i64 ak, .int .i64 o] 59)
      have hxA := heap_alloc_new wr (.cells #[.int .i64 el, .int .i64 ln, .int .i64 ak, .int .i64 o] 59)
      have HBA := Lib.hid (hB2.trans (hbA.mono hB2.size))
      have HXA := Lib.hid ((hbA.block _ hsl).trans hX2)
      by_cases hk2 : ak = 2
      · subst hk2
        obtain ⟨oo0, oo1⟩ := hoo rfl
        have hkg : k < gs.length := by rw [HGS.out]; exact hlt
        obtain ⟨E, rfl⟩ : ∃ E : Nat, el = (E : Int) := ⟨el.toNat, by omega⟩
        obtain ⟨F, rfl⟩ : ∃ F : Nat, o = (F : Int) := ⟨o.toNat, by omega⟩
        obtain ⟨L, rfl⟩ : ∃ L : Nat, ln = (L : Int) := ⟨ln.toNat, by omega⟩
        have hE4 : E ≤ 4 := by omega
        have hE1 : 0 < E := by omega
        have hFO : F + L * E ≤ O := by
          have h5 : p.out = (O : Int) := HO.out
          have e : ((L * E : Nat) : Int) = (E : Int) * (L : Int) := by rw [Int.natCast_mul, Int.mul_comm]
          omega
        rw [outArr_yes rfl] at hGS
        have hml2 : (s.mem.getD k []).length = L := by rw [hml]; simp
        rw [hml2] at hGS
        have hRA := HR.out.below HBA.out
        obtain ⟨r, cap, rfl, hrc⟩ := hRA.slot k hkg
        unfold iSl at hrc
        rw [hml2] at hrc
        have m6 : (wr.alloc (.cells #[.int .i64 (E : Int), .int .i64 (L : Int), .int .i64 2, .int .i64 (F : Int)] 59)).cell? ⟨M, 6, none⟩ = some (.slice (some ⟨r, 0, none⟩) gs.length cap) := (cell_of_blk hRA.blk 6).1
        have hcg : gs.length ≤ cap := by
          rcases hRA.row.2 with ⟨h, _⟩ | ⟨_, _, _, h, _, _, h2, _⟩
          · cases h
          · injection h with _ _ h3; omega
        have hkg2 : (k : Int) < (gs.length : Int) := by omega
        have hEL := Lib.hid (fun W (h : RunAt W B M gt gs (.slice (some ⟨r, 0, none⟩) gs.length cap) p (.slice (some ⟨b, off, none⟩) p.arrays.length ac) bv s) i (hi : i < L) => (h.elem k hkg i (by rw [hml2]; exact hi)).1)
        have HOL := Lib.hid (outSome_len ⟨E, L, 2, F⟩ (s.mem.getD k []) (outGo p s k) (by simpa using hE4))
        have HOS := Lib.hid (outSome_succ ⟨E, L, 2, F⟩ (s.mem.getD k []) (outGo p s k))
        have HO0 : Hid (outSome ⟨E, L, 2, F⟩ (s.mem.getD k []) (outGo p s k) 0 = outGo p s k) := Lib.hid rfl
        have HGS2 := Lib.hid hGS
        have HXAA := Lib.hid hxA
        clear hB2 hX2 hGS hbA hxA hoo hml hkk h2 oo0 oo1 hml2 hRA hL2
        generalize hgi : gs.getD k 0 = gi at *
        have HGI := Lib.hid hgi
        clear hgi
        go_wp2_with fail
        generalize wr.alloc (.cells #[.int .i64 (E : Int), .int .i64 (L : Int), .int .i64 2, .int .i64 (F : Int)] 59) = wA at *
        obtain ⟨wq, rfl⟩ : ∃ wq : World, wq = wr := ⟨_, rfl⟩
        clear m6 hrc x0 x1 x2 x3
        go_loopw [36] (fun vi wr => ∃ i : Nat, i ≤ L ∧ vi = .int .i64 i ∧ Below w.heap.size w wr ∧ wr.heap[w.heap.size]? = some (.cells (bVals (outSome ⟨E, L, 2, F⟩ (s.mem.getD k []) (outGo p s k) i)) 5 (0, 0)) ∧ wr.heap[wq.heap.size]? = some (.cells #[.int .i64 (E : Int), .int .i64 (L : Int), .int .i64 2, .int .i64 (F : Int)] 59 (0, 0))) (fun vi _ => L - (intOf vi).toNat)
        case atStart => exact ⟨0, by omega, rfl, HBA.out, HXA.out, HXAA.out⟩
        case round =>
          obtain ⟨i, hi, rfl, hB3, hX3, hA3⟩ := hrel
          have HB3 := Lib.hid hB3
          have HX3 := Lib.hid hX3
          have HA3 := Lib.hid hA3
          by_cases hil : i < L
          · have ce := hEL.out _ (HR.out.below hB3) i hil
            have hmul : (i + 1) * E ≤ L * E := Nat.mul_le_mul_right E hil
            rw [Nat.succ_mul] at hmul
            have hlen := HOL.out i (by rw [HL2.out]; simp only [Int.toNat_natCast]; omega)
            rw [HL2.out] at hlen
            have hsu := HOS.out i
            unfold outElem at hsu
            simp only [Int.toNat_natCast] at hsu
            have e1 : IntKind.i64.wrap ((i : Int) * (E : Int)) = ((i * E : Nat) : Int) := by
              rw [wrapi64, Int.natCast_mul]; rw [← Int.natCast_mul]; exact wrap64_small _ (by omega) (by omega)
            generalize hq1 : i * E = m at *
            have e2 : IntKind.i64.wrap ((F : Int) + (m : Int)) = ((F + m : Nat) : Int) := by
              rw [wrapi64]; rw [wrap64_small _ (by omega) (by omega)]; omega
            have e3 : IntKind.i64.wrap (((F + m : Nat) : Int) + (E : Int)) = ((F + m + E : Nat) : Int) := by
              rw [wrapi64]; rw [wrap64_small _ (by omega) (by omega)]; omega
            have hsl3 := run_mid w.heap.size O (F + m) (F + m + E) E rfl (by omega) hE1
            generalize hq2 : F + m + E = h2 at *
            generalize hq3 : F + m = q2 at *
            generalize (s.mem.getD k []).getD i 0 = v at *
            have HSU := Lib.hid hsu
            have HLEN := Lib.hid hlen
            have HQ := Lib.hid (show q2 + E ≤ O by omega)
            have i0 : (0 : Int) ≤ (i : Int) := by omega
            have i1 : (i : Int) < (L : Int) := by omega
            clear hq1 hq2 hq3 hsu hlen hmul
            have HS : Hid (∀ w' : World, w'.heap[wq.heap.size]? = some (.cells #[.int .i64 (E : Int), .int .i64 (L : Int), .int .i64 2, .int .i64 (F : Int)] 59 (0, 0)) → (w'.cell? ⟨wq.heap.size, 0, none⟩ = some (.int .i64 (E : Int)) ∧ w'.cell? ⟨wq.heap.size, 3, none⟩ = some (.int .i64 (F : Int)) ∧ w'.heap[wq.heap.size]? = some (.cells #[.int .i64 (E : Int), .int .i64 (L : Int), .int .i64 2, .int .i64 (F : Int)] 59 (0, 0)))) := Lib.hid (fun w' h => ⟨(cell_of_blk h 0).1, (cell_of_blk h 3).1, h⟩)
            clear hB3 hX3
            go_wp2_with fail
            clear ce
            go_region_held3 (fun w' => w'.cell? ⟨wq.heap.size, 0, none⟩ = some (.int .i64 (E : Int)) ∧ w'.cell? ⟨wq.heap.size, 3, none⟩ = some (.int .i64 (F : Int)) ∧ w'.heap[wq.heap.size]? = some (.cells #[.int .i64 (E : Int), .int .i64 (L : Int), .int .i64 2, .int .i64 (F : Int)] 59 (0, 0)))
              (exact HS.out _ (by first | assumption | exact hA3 | exact (setRow_far2 (by omega)).trans G8))
              (first
                | (go_at_call 51; refine (word_Bytes _ _).mono ?_; rintro e w8 ⟨rfl, hb8⟩; have G8 := (hb8.block _ (lt_of_blk HA3.out)).trans HA3.out; have X8 := Lib.hid ((hb8.block _ (lt_of_blk HX3.out)).trans HX3.out); have B8 := Lib.hid (HB3.out.drew.trans (hb8.mono HB3.out.size)))
                | (refine step_cpy rfl (.tmp 59) (.tmp 61) 91 9 rfl rfl rfl (run_out_elem _ w.heap.size _ X8.out q2 E _ hE4 (by rw [HLEN.out]; exact HQ.out) v) ?_))
            have HFB := Lib.hid (below_setRow B8.out (Nat.le_refl w.heap.size) (bVals (lay (outSome ⟨(E : Int), (L : Int), 2, (F : Int)⟩ (s.mem.getD k []) (outGo p s k) i) q2 ((wBytes v).data.toList.take E))))
            have HFX := Lib.hid (setRow_at2 (cs' := bVals (lay (outSome ⟨(E : Int), (L : Int), 2, (F : Int)⟩ (s.mem.getD k []) (outGo p s k) i) q2 ((wBytes v).data.toList.take E))) X8.out)
            have HFA := Lib.hid ((setRow_far2 (w := w8) (g := w.heap.size) (k := wq.heap.size) (cs' := bVals (lay (outSome ⟨(E : Int), (L : Int), 2, (F : Int)⟩ (s.mem.getD k []) (outGo p s k) i) q2 ((wBytes v).data.toList.take E))) (by omega)).trans G8)
            generalize w8.setRow w.heap.size (bVals (lay (outSome ⟨(E : Int), (L : Int), 2, (F : Int)⟩ (s.mem.getD k []) (outGo p s k) i) q2 ((wBytes v).data.toList.take E))) = w9 at *
            clear G8 hb8 hA3
            go_wp2_with fail
            go_roundw
            case rel => exact ⟨i + 1, by omega, by go_num, HFB.out, by rw [HSU.out]; exact HFX.out, HFA.out⟩
            case measure => simp [intOf]; omega
          · obtain rfl : i = L := by omega
            have hln := HOL.out i (by rw [HL2.out]; simp only [Int.toNat_natCast]; exact hFO)
            rw [HL2.out] at hln
            have HLN := Lib.hid hln
            clear hB3 hX3 hA3 hln
            go_wp2_with fail
            go_roundw
            case rel => exact ⟨k + 1, by omega, by go_num, HB3.out, by rw [HGS2.out]; exact HX3.out, by rw [HGS2.out]; exact HLN.out⟩
            case measure => simp [intOf]; omega
      · have q1 : (ak != 2) = true := by rw [bne_iff_ne]; exact hk2
        rw [outArr_no hk2] at hGS
        have HGS2 := Lib.hid hGS
        clear hB2 hX2 hL2 hGS hbA hxA hoo hml hkk
        go_wp2_with fail
        go_roundw
        case rel => exact ⟨k + 1, by omega, by go_num, HBA.out, by rw [HGS2.out]; exact HXA.out, by rw [HGS2.out]; exact HL2.out⟩
        case measure => simp [intOf]; omega
    · obtain rfl : k = p.arrays.length := by omega
      have hcv : (convert 91 9 (.slice (some ⟨w.heap.size, 0, none⟩) O O)).run Try.prog wr = .ok (.string RES) wr := by
        rw [← HOP.out]
        unfold outP
        have hX3 := HX2.out
        have hl3 := HL2.out
        generalize outGo p s p.arrays.length = bs at *
        have hc : ∀ j (hj : j < bs.length), wr.cell? ((⟨w.heap.size, 0, none⟩ : Addr).add j) = some (.int .u8 ((bs[j]).toNat : Int)) := by
          intro j hj
          have ha : ((⟨w.heap.size, 0, none⟩ : Addr).add j) = ⟨w.heap.size, j, none⟩ := by
            unfold Addr.add; split
            · rename_i h; simp
            · simp
          rw [ha, (cell_of_blk hX3 j).1]
          unfold bVals
          simp [hj]
        have := run_convert_bytes_back (P := Try.prog) wr 91 9 5 ⟨w.heap.size, 0, none⟩ O bs Try.underlying91 Try.underlying5 Try.underlying9 hc
        rw [hl3] at this
        exact this
      clear hX2 hL2
      go_wp2_with fail
      go_ret
      exact ⟨rfl, HB2.out⟩
end Go.Proofs.Ythkobddggoojlaa
namespace Go.Proofs.Ythkobddggoojlaa
open Go.RowKit
set_option linter.unusedVariables false
section
variable {p : Ir} {at_ : Int} {j m : Nat} {s s' : St}
theorem runP_op_none (h : at_ ≠ -1) (hj : j < (p.blocks.getD at_.toNat blkNone).ops.length) (hs : stepP p s ((p.blocks.getD at_.toNat blkNone).ops.getD j opNone) = none) : runP p (m + 1) at_ j s = (bE, 19) := by
  rw [runP_succ p m at_ j s h]; unfold mStep; rw [if_pos hj, hs]
theorem runP_op_some (h : at_ ≠ -1) (hj : j < (p.blocks.getD at_.toNat blkNone).ops.length) (hs : stepP p s ((p.blocks.getD at_.toNat blkNone).ops.getD j opNone) = some s') : runP p (m + 1) at_ j s = runP p m at_ (j + 1) s' := by
  rw [runP_succ p m at_ j s h]; unfold mStep; rw [if_pos hj, hs]
theorem runP_halt (h : at_ ≠ -1) (hk : (p.blocks.getD at_.toNat blkNone).term.kind = 3) : runP p (m + 1) at_ (p.blocks.getD at_.toNat blkNone).ops.length s = (outP p s, 0) := by
  rw [runP_succ p m at_ _ s h]; unfold mStep; rw [if_neg (by omega), if_pos hk]
theorem runP_next (h : at_ ≠ -1) (hk : (p.blocks.getD at_.toNat blkNone).term.kind ≠ 3) : runP p (m + 1) at_ (p.blocks.getD at_.toNat blkNone).ops.length s = runP p m (nextP s.ts (p.blocks.getD at_.toNat blkNone).term) 0 s := by
  rw [runP_succ p m at_ _ s h]; unfold mStep; rw [if_neg (by omega), if_neg hk]
end
theorem nextP_label {p : Ir} {t : Trm} (ht : trmP p t) (hk : t.kind ≠ 3) (ts : List Int) : labelP p (nextP ts t) := by
  unfold nextP
  rcases ht with ⟨h1, _, _, h2⟩ | ⟨h1, _, h2, h3⟩ | ⟨h1, _⟩
  · rw [if_pos h1]; exact h2
  · rw [if_neg (by omega)]
    split
    · exact h2
    · split
      · exact h3
      · unfold labelP; omega
  · exact absurd h1 hk
def RunPost (r : ByteArray × Int) (w : World) (e : Ending) (w' : World) : Prop := e = .returned (.tuple #[.string r.1, .int .i64 r.2]) ∧ Below w.heap.size w w'
set_option maxRecDepth 100000 in
set_option maxHeartbeats 8000000 in
theorem run_bad (p : Ir) (av bv : Value) (hf : p.fine) (input : ByteArray) (budget : Int) (w : World) (hI : IrRep w w.heap.size p av bv) (he : irErr p ≠ 0) :
    Calls Try.prog 13 #[irVal p av bv, .string input, .int .i64 budget] w (RunPost (bE, irErr p) w) := by
  have HC := Lib.hid (fun W h => ir_Check p av bv hf W h)
  have HI := Lib.hid hI
  have q : (irErr p != 0) = true := by rw [bne_iff_ne]; exact he
  unfold irVal at *
  unfold RunPost
  generalize irErr p = fe at *
  clear hI he
  go_enter Try.func13, Try.ntmps13
  go_wp2_with fail
  refine (HC.out _ (HI.out.next (bnew _ _))).mono ?_
  rintro e w2 ⟨rfl, hb⟩
  have HB := Lib.hid (bch (bnew _ _) hb)
  clear hb
  go_wp2_with fail
  go_ret2
  exact ⟨rfl, HB.out⟩
set_option maxRecDepth 100000 in
set_option maxHeartbeats 8000000 in
theorem run_arg (p : Ir) (av bv : Value) (hf : p.fine) (input : ByteArray) (hsz : input.size ≤ maxLen) (budget : Int) (w : World) (hI : IrRep w w.heap.size p av bv) (he : irErr p = 0) (h : (input.size : Int) ≠ p.inp ∨ ¬ (0 ≤ budget ∧ budget ≤ 67108864)) :
    Calls Try.prog 13 #[irVal p av bv, .string input, .int .i64 budget] w (RunPost (bE, 2) w) := by
  have HC := Lib.hid (fun W h => ir_Check p av bv hf W h)
  have HW := Lib.hid (fun W => ir_within budget 0 67108864 W)
  have HI := Lib.hid hI
  unfold maxLen at hsz
  rw [he] at HC
  unfold irVal at *
  unfold RunPost
  clear hI he
  by_cases hi : (input.size : Int) = p.inp
  · have hb0 : ¬ (0 ≤ budget ∧ budget ≤ 67108864) := by
      rcases h with h | h
      · exact absurd hi h
      · exact h
    rw [decide_eq_false hb0] at HW
    have q : ((input.size : Int) != p.inp) = false := by rw [bne_eq_false_iff_eq]; exact hi
    have HIN := Lib.hid hi
    clear hb0 h hi
    go_enter Try.func13, Try.ntmps13
    go_wp2_with fail
    refine (HC.out _ (HI.out.next (bnew _ _))).mono ?_
    rintro e w2 ⟨rfl, hb⟩
    have hx := (hb.block w.heap.size (by simp)).trans (heap_alloc_new w _)
    have c3 : w2.cell? ⟨w.heap.size, 3, none⟩ = some (.int .i64 p.inp) := (cell_of_blk hx 3).1
    have HB := Lib.hid (bch (bnew _ _) hb)
    clear hb hx
    go_wp2_with fail
    refine (HW.out _).mono ?_
    rintro e w3 ⟨rfl, rfl⟩
    go_wp2_with fail
    go_ret2
    exact ⟨rfl, HB.out⟩
  · have q : ((input.size : Int) != p.inp) = true := by rw [bne_iff_ne]; exact hi
    clear hi h
    go_enter Try.func13, Try.ntmps13
    go_wp2_with fail
    refine (HC.out _ (HI.out.next (bnew _ _))).mono ?_
    rintro e w2 ⟨rfl, hb⟩
    have hx := (hb.block w.heap.size (by simp)).trans (heap_alloc_new w _)
    have c3 : w2.cell? ⟨w.heap.size, 3, none⟩ = some (.int .i64 p.inp) := (cell_of_blk hx 3).1
    have HB := Lib.hid (bch (bnew _ _) hb)
    clear hb hx
    go_wp2_with fail
    go_ret2
    exact ⟨rfl, HB.out⟩
end Go.Proofs.Ythkobddggoojlaa
namespace Go.Proofs.Ythkobddggoojlaa
open Go.RowKit
set_option linter.unusedVariables false
theorem opVal_cells (o : Opn) : opVal o = .agg #[.int .i64 o.kind, .int .i64 o.dst, .int .i64 o.a, .int .i64 o.b, .int .i64 o.c, .int .i64 o.imm] := rfl
set_option maxRecDepth 100000 in
set_option maxHeartbeats 16000000 in
theorem run_go (p : Ir) (av bv : Value) (hf : p.fine) (input : ByteArray) (budget : Int) (w : World) (hI : IrRep w w.heap.size p av bv) (he : irErr p = 0) (hin : (input.size : Int) = p.inp) (hb0 : 0 ≤ budget) (hb1 : budget ≤ 67108864) :
    Calls Try.prog 13 #[irVal p av bv, .string input, .int .i64 budget] w (RunPost (runP p budget.toNat 0 0 (startP p input)) w) := by
  have HC := Lib.hid (fun W h => ir_Check p av bv hf W h)
  have HW := Lib.hid (fun W => ir_within budget 0 67108864 W)
  obtain ⟨hng, hm⟩ := irErr_ok he
  obtain ⟨⟨⟨hi0, hi1, _⟩, ⟨ho0, ho1, _⟩, hT0, hnb⟩, hae, hbl⟩ := hm
  have hALL := arrEnd_all p.inp p.out p.arrays 0 hae
  have HSH : Hid (∀ a ∈ p.arrays, shapedP a) := Lib.hid (fun a ha => (hALL a ha).1)
  have HBL := Lib.hid hbl
  unfold greatP at hng
  have hrs := railSum_nonneg p.arrays
  have hT1 : p.temps ≤ 1048576 := by omega
  have hn1 : p.arrays.length ≤ 1048576 := by omega
  have hn2 : p.blocks.length ≤ 1048576 := by omega
  have HOPS : Hid (∀ k, k < p.blocks.length → (p.blocks.getD k blkNone).ops.length ≤ 1048576) := Lib.hid (fun k hk => by
    have h1 := opsSum_step p.blocks k hk
    have h2 := opsSum_take p.blocks (k + 1)
    omega)
  have hnb1 : 0 < p.blocks.length := List.length_pos_iff.2 hnb
  obtain ⟨hRA, hRB⟩ := hI
  obtain ⟨AA, ac, rfl, hac⟩ := hRA.form
  obtain ⟨BA, bc, rfl, hbc⟩ := hRB.form
  have HI := Lib.hid (show IrRep w w.heap.size p _ _ from ⟨hRA, hRB⟩)
  have HST := Lib.hid (fun W h => run_start p AA ac (.slice BA p.blocks.length bc) he input hin W h)
  have HOU := Lib.hid (fun B M gt gs aav s hf W hR hA => run_output p AA ac (.slice BA p.blocks.length bc) he B M gt gs aav s hf W hR hA)
  have HOPN := Lib.hid (fun o ho B M gt gs aav s hf W hR hA => run_op p AA ac (.slice BA p.blocks.length bc) o ho B M gt gs aav s hf ⟨hT0, hT1⟩ hn1 HSH.out W hR hA)
  have HNX := Lib.hid (fun t ht B M gt gs aav s hf W hR => run_next p (.slice AA p.arrays.length ac) (.slice BA p.blocks.length bc) t ht B M gt gs aav s hf hT1 W hR)
  rw [decide_eq_true (show 0 ≤ budget ∧ budget ≤ 67108864 from ⟨hb0, hb1⟩)] at HW
  rw [he] at HC
  have hsz : input.size ≤ 65536 := by omega
  have q : ((input.size : Int) != p.inp) = false := by rw [bne_eq_false_iff_eq]; exact hin
  have HIN := Lib.hid hin
  obtain ⟨N, rfl⟩ : ∃ N : Nat, budget = (N : Int) := ⟨budget.toNat, by omega⟩
  have hfs := fit_start p input
  have HFS := Lib.hid hfs
  rw [Int.toNat_natCast]
  generalize hRES : runP p N 0 0 (startP p input) = RES
  have HRES := Lib.hid hRES
  unfold irVal at HC HST ⊢
  generalize hPO : RunPost RES w = PO
  have HPO := Lib.hid hPO
  clear hfs hng hae hALL hbl hrs hRA hRB he hin hf hnb hb0 hRES hPO
  go_enter Try.func13, Try.ntmps13
  go_wp2_with fail
  refine (HC.out _ (HI.out.next (bnew _ _))).mono ?_
  rintro e w2 ⟨rfl, hb⟩
  have hx := (hb.block w.heap.size (by simp)).trans (heap_alloc_new w _)
  have c0 : w2.cell? ⟨w.heap.size, 0, none⟩ = some (.int .i64 p.temps) := (cell_of_blk hx 0).1
  have c1 : w2.cell? ⟨w.heap.size, 1, none⟩ = some (.slice AA p.arrays.length ac) := (cell_of_blk hx 1).1
  have c2 : w2.cell? ⟨w.heap.size, 2, none⟩ = some (.slice BA p.blocks.length bc) := (cell_of_blk hx 2).1
  have c3 : w2.cell? ⟨w.heap.size, 3, none⟩ = some (.int .i64 p.inp) := (cell_of_blk hx 3).1
  have c4 : w2.cell? ⟨w.heap.size, 4, none⟩ = some (.int .i64 p.out) := (cell_of_blk hx 4).1
  have HB2 := Lib.hid (bch (bnew _ _) hb)
  have HX2 := Lib.hid hx
  clear hb hx
  go_wp2_with fail
  refine (HW.out _).mono ?_
  rintro e w3 ⟨rfl, rfl⟩
  go_wp2_with fail
  refine (HST.out _ (HI.out.next HB2.out)).mono ?_
  rintro e w3 ⟨M, gt, gs, aav, rfl, hR, hb3⟩
  have HB3 := Lib.hid hb3
  have hM2 := hR.bM
  have HM : Hid (w.heap.size < w2.heap.size) := Lib.hid (lt_of_blk HX2.out)
  have HR := Lib.hid hR
  clear hb3 hR c0 c1 c2 c3 c4
  go_wp2_with fail
  go_loopw [2, 10] (fun vb va wr => ∃ (n : Nat) (at_ : Int) (s : St), n ≤ N ∧ vb = .int .i64 n ∧ va = .int .i64 at_ ∧ labelP p at_ ∧ RunAt wr w2.heap.size M gt gs aav p (.slice AA p.arrays.length ac) (.slice BA p.blocks.length bc) s ∧ Fit p s ∧ Below w2.heap.size w2 wr ∧ runP p n at_ 0 s = RES) (fun vb _ _ => (intOf vb).toNat)
  case atStart => exact ⟨N, 0, startP p input, Nat.le_refl _, rfl, rfl, ⟨by omega, by omega⟩, HR.out, HFS.out, HB3.out, HRES.out⟩
  case round =>
    obtain ⟨n, at_, s, hnN, rfl, rfl, ⟨hl0, hl1⟩, hR1, hF1, hBW, hRE⟩ := hrel
    have HR1 := Lib.hid hR1
    have HF1 := Lib.hid hF1
    have HBW := Lib.hid hBW
    have HRE := Lib.hid hRE
    by_cases hat : at_ = -1
    · subst hat
      have hr := HRE.out
      rw [runP_none] at hr
      have HRR := Lib.hid hr
      clear hR1 hF1 hRE hr hl0 hl1
      go_wp2_with fail
      rw [← HPO.out, ← HRR.out]
      exact ⟨rfl, HB2.out.trans (hBW.mono HB2.out.size)⟩
    · have qa : (at_ != -1) = true := by rw [bne_iff_ne]; exact hat
      obtain ⟨a, rfl⟩ : ∃ a : Nat, at_ = (a : Int) := ⟨at_.toNat, by omega⟩
      have ha : a < p.blocks.length := by omega
      have hbw := HB2.out.trans (hBW.mono HB2.out.size)
      obtain ⟨b, off, rfl, hb0, OA, oc, hops, hoc, x0, x1, x2, x3, x4⟩ := blk_at HI.out.2 a ha
      have hcw : ∀ o, wr.cell? ⟨b, o, none⟩ = w.cell? ⟨b, o, none⟩ := fun o => hbw.cell (p := ⟨b, o, none⟩) hb0
      rw [← hcw] at x0 x1 x2 x3 x4
      have hops1 := HOPS.out a ha
      obtain ⟨hop, htrm⟩ := HBL.out _ (getD_memI p.blocks a blkNone ha)
      have hx2 := (hBW.block _ (lt_of_blk HX2.out)).trans HX2.out
      have c2 : wr.cell? ⟨w.heap.size, 2, none⟩ = some (.slice (some ⟨b, off, none⟩) p.blocks.length bc) := (cell_of_blk hx2 2).1
      have HHN := Lib.hid (fun m j s => runP_op_none (p := p) (at_ := (a : Int)) (j := j) (m := m) (s := s))
      have HHS := Lib.hid (fun m j s s' => runP_op_some (p := p) (at_ := (a : Int)) (j := j) (m := m) (s := s) (s' := s'))
      have HHT := Lib.hid (fun m s => runP_halt (p := p) (at_ := (a : Int)) (m := m) (s := s))
      have HHX := Lib.hid (fun m s => runP_next (p := p) (at_ := (a : Int)) (m := m) (s := s))
      rw [Int.toNat_natCast] at HHN HHS HHT HHX
      have HTL := Lib.hid (fun hk ts => nextP_label htrm hk ts)
      have HTM := Lib.hid htrm
      have HOP := Lib.hid hop
      generalize p.blocks.getD a blkNone = bk at *
      obtain ⟨ops, trm⟩ := bk
      obtain ⟨tk, ta, ty, tn⟩ := trm
      simp only at hops hoc x0 x1 x2 x3 x4 hops1
      have k0 : (0 : Int) ≤ (a : Int) := by omega
      have k1 : (a : Int) < (p.blocks.length : Int) := by omega
      have hbA := bnew wr (.cells #[.slice OA ops.length oc, .int .i64 tk, .int .i64 ta, .int .i64 ty, .int .i64 tn] 40)
      have hxA := heap_alloc_new wr (.cells #[.slice OA ops.length oc, .int .i64 tk, .int .i64 ta, .int .i64 ty, .int .i64 tn] 40)
      have HRA := Lib.hid (hR1.below hbA)
      have HBA := Lib.hid (hBW.trans (hbA.mono hBW.size))
      have HXA := Lib.hid hxA
      have HOA := Lib.hid hops
      have HA0 : Hid (w2.heap.size ≤ wr.heap.size) := Lib.hid hBW.size
      have HBWQ := Lib.hid hbA
      clear hR1 hF1 hBW hRE hcw hbw hx2 hbA hxA hops hop htrm
      go_wp2_with fail
      generalize wr.alloc (.cells #[.slice OA ops.length oc, .int .i64 tk, .int .i64 ta, .int .i64 ty, .int .i64 tn] 40) = wA at *
      obtain ⟨wq, rfl⟩ : ∃ wq : World, wq = wr := ⟨_, rfl⟩
      clear x0 x1 x2 x3 x4 c2
      have HARR : Hid (SlRep arrEnc w2 w2.heap.size (.slice AA p.arrays.length ac) p.arrays) := Lib.hid (HI.out.1.next HB2.out)
      have HNG : Hid (wq.heap.size ≠ gt ∧ wq.heap.size ∉ gs) := Lib.hid ⟨fun e => by have := lt_of_blk HR1.out.tmp; omega, fun hm => by
        obtain ⟨i, hi, hie⟩ := List.getElem_of_mem hm
        have := lt_of_blk (HR1.out.mem i hi)
        rw [List.getD_eq_getElem?_getD, List.getElem?_eq_getElem hi] at this
        simp at this
        omega⟩
      go_loopw [2, 42] (fun vb vi wr => ∃ (m j : Nat) (s' : St), m ≤ n ∧ j ≤ ops.length ∧ vb = .int .i64 m ∧ vi = .int .i64 j ∧ RunAt wr w2.heap.size M gt gs aav p (.slice AA p.arrays.length ac) (.slice (some ⟨b, off, none⟩) p.blocks.length bc) s' ∧ Fit p s' ∧ Below w2.heap.size w2 wr ∧ wr.heap[wq.heap.size]? = some (.cells #[.slice OA ops.length oc, .int .i64 tk, .int .i64 ta, .int .i64 ty, .int .i64 tn] 40 (0, 0)) ∧ runP p m a j s' = RES) (fun _ vi _ => ops.length - (intOf vi).toNat)
      case atStart => exact ⟨n, 0, s, Nat.le_refl _, Nat.zero_le _, rfl, rfl, HRA.out, HF1.out, HBA.out, HXA.out, HRE.out⟩
      case round =>
        obtain ⟨m, j, s', hmn, hjl, rfl, rfl, hR2, hF2, hBJ, hXJ, hRJ⟩ := hrel
        have HR2 := Lib.hid hR2
        have HF2 := Lib.hid hF2
        have HBJ := Lib.hid hBJ
        have HXJ := Lib.hid hXJ
        have HRJ := Lib.hid hRJ
        have hxl := lt_of_blk hXJ
        have hm0 : (0 : Int) ≤ (m : Int) := by omega
        have hmN : (m : Int) ≤ 67108864 := by omega
        by_cases hjlt : j < ops.length
        · have hbj := HB2.out.trans (hBJ.mono HB2.out.size)
          obtain ⟨ob, ooff, rfl, hob, y0, y1, y2, y3, y4, y5⟩ := op_at HOA.out j hjlt
          have hcj : ∀ o, wr.cell? ⟨ob, o, none⟩ = w.cell? ⟨ob, o, none⟩ := fun o => hbj.cell (p := ⟨ob, o, none⟩) hob
          rw [← hcj] at y0 y1 y2 y3 y4 y5
          have HOPJ := Lib.hid (HOP.out _ (getD_memI ops j opNone hjlt))
          have HHN2 := Lib.hid (fun m' hs => HHN.out m' j s' hat hjlt hs)
          have HHS2 := Lib.hid (fun m' s'' hs => HHS.out m' j s' s'' hat hjlt hs)
          have j0 : (0 : Int) ≤ (j : Int) := by omega
          have j1 : (j : Int) < (ops.length : Int) := by omega
          generalize ops.getD j opNone = o at *
          have HCALL := Lib.hid (fun W hR hA => HOPN.out o HOPJ.out w2.heap.size M gt gs aav s' hF2 W hR hA)
          rw [opVal_cells] at HCALL
          have hbo := bnew wr (.cells #[.int .i64 o.kind, .int .i64 o.dst, .int .i64 o.a, .int .i64 o.b, .int .i64 o.c, .int .i64 o.imm] 46)
          have HRO := Lib.hid (hR2.below hbo)
          have HBO := Lib.hid (hBJ.trans (hbo.mono hBJ.size))
          have HXO := Lib.hid ((hbo.block _ hxl).trans hXJ)
          clear hcj hbj hR2 hF2 hBJ hXJ hRJ hbo
          by_cases hmz : m = 0
          · subst hmz
            have hr := HRJ.out
            rw [runP_zero _ _ _ _ hat] at hr
            have HRR := Lib.hid hr
            have hz : ((0 : Nat) : Int) = 0 := rfl
            rw [hz]
            clear hr hz
            go_wp2_with fail
            rw [← HPO.out, ← HRR.out]
            exact ⟨rfl, HB2.out.trans (HBO.out.mono HB2.out.size)⟩
          · obtain ⟨m', hm'⟩ : ∃ m', m = m' + 1 := ⟨m - 1, by omega⟩
            have qm : ((m : Int) == 0) = false := by rw [beq_eq_false_iff_ne]; omega
            have HEM : Hid ((m : Int) - 1 = (m' : Int)) := Lib.hid (by omega)
            have HM' := Lib.hid hm'
            rw [hm'] at HRJ
            clear hm' hmz
            go_wp2_with fail
            generalize wr.alloc (.cells #[.int .i64 o.kind, .int .i64 o.dst, .int .i64 o.a, .int .i64 o.b, .int .i64 o.c, .int .i64 o.imm] 46) = wO at *
            refine (HCALL.out _ HRO.out (HARR.out.below HBO.out (Nat.le_refl _))).mono ?_
            intro e w4 hpost
            cases hst : stepP p s' o with
            | none =>
              rw [hst] at hpost
              obtain ⟨rfl, hR4, hB4, hK4⟩ := hpost
              have hr := HRJ.out
              rw [HHN2.out m' hst] at hr
              have HRR := Lib.hid hr
              have HB4 := Lib.hid (HBO.out.trans hB4)
              clear hr hR4 hB4 hK4 hst
              go_wp2_with fail
              rw [← HPO.out, ← HRR.out]
              exact ⟨rfl, HB2.out.trans (HB4.out.mono HB2.out.size)⟩
            | some s'' =>
              rw [hst] at hpost
              obtain ⟨rfl, hR4, hB4, hK4⟩ := hpost
              have hr := HRJ.out
              rw [HHS2.out m' s'' hst] at hr
              have HRR := Lib.hid hr
              have HB4 := Lib.hid (HBO.out.trans hB4)
              have HR4 := Lib.hid hR4
              have HX4 := Lib.hid ((hK4 _ (lt_of_blk HXO.out) HNG.out.1 HNG.out.2).trans HXO.out)
              have HF4 := Lib.hid (fit_step HF2.out hst)
              clear hr hR4 hB4 hK4 hst
              go_wp2_with fail
              go_roundw
              case rel => exact ⟨m', j + 1, s'', by have := HM'.out; omega, by omega, by rw [HEM.out], by go_num, HR4.out, HF4.out, HB4.out, HX4.out, HRR.out⟩
              case measure => simp [intOf]; omega
        · obtain rfl : j = ops.length := by omega
          have b1 : wr.cell? ⟨wq.heap.size, 1, none⟩ = some (.int .i64 tk) := (cell_of_blk hXJ 1).1
          have b2 : wr.cell? ⟨wq.heap.size, 2, none⟩ = some (.int .i64 ta) := (cell_of_blk hXJ 2).1
          have b3 : wr.cell? ⟨wq.heap.size, 3, none⟩ = some (.int .i64 ty) := (cell_of_blk hXJ 3).1
          have b4 : wr.cell? ⟨wq.heap.size, 4, none⟩ = some (.int .i64 tn) := (cell_of_blk hXJ 4).1
          have HHT2 := Lib.hid (fun m' hk => HHT.out m' s' hat hk)
          have HHX2 := Lib.hid (fun m' hk => HHX.out m' s' hat hk)
          clear hR2 hF2 hBJ hXJ hRJ
          by_cases hmz : m = 0
          · subst hmz
            have hr := HRJ.out
            rw [runP_zero _ _ _ _ hat] at hr
            have HRR := Lib.hid hr
            have hz : ((0 : Nat) : Int) = 0 := rfl
            rw [hz]
            clear hr hz
            go_wp2_with fail
            rw [← HPO.out, ← HRR.out]
            exact ⟨rfl, HB2.out.trans (HBJ.out.mono HB2.out.size)⟩
          · obtain ⟨m', hm'⟩ : ∃ m', m = m' + 1 := ⟨m - 1, by omega⟩
            have qm : ((m : Int) == 0) = false := by rw [beq_eq_false_iff_ne]; omega
            have HEM : Hid ((m : Int) - 1 = (m' : Int)) := Lib.hid (by omega)
            have HM' := Lib.hid hm'
            rw [hm'] at HRJ
            clear hm' hmz
            by_cases hk3 : tk = 3
            · subst hk3
              have hr := HRJ.out
              rw [HHT2.out m' rfl] at hr
              have HRR := Lib.hid hr
              clear hr
              go_wp2_with fail
              refine (HOU.out _ _ _ _ _ _ HF2.out _ HR2.out (HARR.out.below HBJ.out (Nat.le_refl _))).mono ?_
              rintro e w4 ⟨rfl, hb4⟩
              have HB4 := Lib.hid (HBJ.out.trans (hb4.mono HBJ.out.size))
              clear hb4
              go_wp2_with fail
              rw [← HPO.out, ← HRR.out]
              exact ⟨rfl, HB2.out.trans (HB4.out.mono HB2.out.size)⟩
            · have q3 : (tk == 3) = false := by rw [beq_eq_false_iff_ne]; exact hk3
              have hr := HRJ.out
              rw [HHX2.out m' hk3] at hr
              have HRR := Lib.hid hr
              have HLB := Lib.hid (HTL.out hk3 s'.ts)
              have htt : tk = 1 ∨ (0 ≤ ta ∧ ta < p.temps) := by
                rcases HTM.out with ⟨h, _⟩ | ⟨_, h, _⟩ | ⟨h, _⟩
                · exact Or.inl h
                · exact Or.inr h
                · exact absurd h hk3
              have HCN := Lib.hid (HNX.out ⟨tk, ta, ty, tn⟩ htt w2.heap.size M gt gs aav s' HF2.out wr HR2.out)
              unfold trmVal at HCN
              clear hr htt hk3
              generalize nextP s'.ts ⟨tk, ta, ty, tn⟩ = nx at *
              go_wp2_with fail
              refine HCN.out.mono ?_
              rintro e w4 ⟨rfl, hb4⟩
              have HB4 := Lib.hid (HBJ.out.trans (hb4.mono HBJ.out.size))
              have HR4 := Lib.hid (HR2.out.below hb4)
              clear hb4
              go_wp2_with fail
              go_roundw
              case rel => exact ⟨m', nx, s', by have := HM'.out; omega, by rw [HEM.out], rfl, HLB.out, HR4.out, HF2.out, HB4.out, HRR.out⟩
              case measure => have := HM'.out; simp [intOf]; omega
end Go.Proofs.Ythkobddggoojlaa
namespace Go.Proofs.Ythkobddggoojlaa
open Go.RowKit
set_option linter.unusedVariables false
theorem ir_Run (p : Ir) (av bv : Value) (hf : p.fine) (input : ByteArray) (hsz : input.size ≤ maxLen) (budget : Int) (w : World) (hI : IrRep w w.heap.size p av bv) :
    Calls Try.prog 13 #[irVal p av bv, .string input, .int .i64 budget] w (RunPost (irRun p input budget) w) := by
  unfold irRun
  by_cases he : irErr p = 0
  · rw [if_neg (by simpa using he)]
    by_cases h : (input.size : Int) ≠ p.inp ∨ ¬ (0 ≤ budget ∧ budget ≤ 67108864)
    · rw [if_pos h]
      exact run_arg p av bv hf input hsz budget w hI he h
    · rw [if_neg h]
      have h1 : (input.size : Int) = p.inp := Decidable.byContradiction fun hh => h (Or.inl hh)
      have h2 : 0 ≤ budget ∧ budget ≤ 67108864 := Decidable.byContradiction fun hh => h (Or.inr hh)
      exact run_go p av bv hf input budget w hI he h1 h2.1 h2.2
  · rw [if_pos he]
    exact run_bad p av bv hf input budget w hI he
end Go.Proofs.Ythkobddggoojlaa
