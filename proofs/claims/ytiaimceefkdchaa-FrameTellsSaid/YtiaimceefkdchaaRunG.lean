/- A run's output: rows of bytes, copies of strings into them. Laws of memory and plain facts. -/
import Derived.Test.YtiaimceefkdchaaRunF
import Derived.Laws.CopyOwn
import Derived.Lib.BufferWrite
namespace Go.Proofs.Ytiaimceefkdchaa
open Go.RowKit
set_option linter.unusedVariables false
def bVals (bs : List UInt8) : Array Value := (bs.map fun b => Value.int .u8 (b.toNat : Int)).toArray
theorem bVals_list (bs : List UInt8) : (bVals bs).toList = Lib.byteCells bs := by unfold bVals Lib.byteCells; simp
theorem bVals_size (bs : List UInt8) : (bVals bs).size = bs.length := by unfold bVals; simp
theorem run_copy_str2 {P : Program} (w : World) (dT sT ty elem : TypeId) (g o dLen dCap n : Nat) (s : ByteArray) (cur : Array Value) (t : TypeId)
    (hu : P.underlying dT = some (.slice elem)) (hs : (P.info? elem).map (·.size) = some 1) (hg : w.heap[g]? = some (.cells cur t (0, 0))) (hn : Nat.min s.size dLen = n) (hfit : o + n ≤ cur.size) :
    (Builtin.copy_ #[dT, sT] ty #[.slice (some ⟨g, o, none⟩) dLen dCap, .string s]).run P w =
      .ok (goInt n) (w.setRow g (cur.toList.take o ++ Lib.byteCells (s.data.toList.take n) ++ cur.toList.drop (o + n)).toArray) := by
  have hle : n ≤ s.size := by rw [← hn]; exact Nat.min_le_left _ _
  have hsz : s.data.toList.length = s.size := by rw [Array.length_toList, ByteArray.size_data]
  have hlen : (Lib.byteCells (s.data.toList.take n)).length = n := by rw [Lib.byteCells_length, List.length_take, hsz]; omega
  have hst := run_storeCells_at P g o t (Lib.byteCells (s.data.toList.take n)) 0 cur w hg (by rw [hlen]; simpa using hfit) (Lib.byteCells_one _)
  have htk : List.take n (List.map (fun b : UInt8 => Value.int IntKind.u8 (b.toNat : Int)) s.data.toList) = Lib.byteCells (s.data.toList.take n) := by
    rw [← List.map_take]; rfl
  rw [hlen] at hst
  simp only [Nat.add_zero] at hst
  cases hq : P.info? elem with
  | none => simp [hq] at hs
  | some i =>
    simp [Builtin.copy_, run_underlying hu, Builtin.lenOf, Builtin.firstCells, sizeOf, typeInfo, hq, hn]
    rw [htk, hst]
    simp [Result.andThen]
theorem step_cpy {P : Program} {ops : Array Oper} {o : Oper} {a : Act} {w : World} {K : Act → World → Prop} {Q : Exit → Act → World → Prop} {E : Prop} (hgd : o.guard = none) (d s : Operand) (t t' : TypeId)
    (ho : o.op = .call { callee := .builtin .copy, args := #[d, s], argTypes := #[t, t'] }) {v u v' : Value} {w' : World} (hd : a.eval d = v) (hs : a.eval s = u) (hr : (Builtin.copy_ #[t, t'] o.type #[v, u]).run P w = .ok v' w')
    (h : K (a.put o.dst v') w') : if Region.wanted o (yielded ops a.tmps) = true then Oper.wp P o a w K Q else E := by
  have hw : Region.wanted o (yielded ops a.tmps) = true := by simp [Region.wanted, hgd]
  rw [if_pos hw]
  unfold Oper.wp execOp
  simp only [ho, resolve, invoke, builtin, Sem.run_bind, Sem.run_pure, Result.andThen_ok, List.map_toArray, List.map_cons, List.map_nil, hd, hs, hr]
  exact h
theorem setRow_at2 {w : World} {g : Nat} {cs cs' : Array Value} {t : TypeId} (h : w.heap[g]? = some (.cells cs t (0, 0))) : (w.setRow g cs').heap[g]? = some (.cells cs' t (0, 0)) := by
  unfold World.setRow
  simp [Array.getElem?_modify, h]
theorem setRow_far2 {w : World} {g k : Nat} {cs' : Array Value} (h : k ≠ g) : (w.setRow g cs').heap[k]? = w.heap[k]? := by
  unfold World.setRow
  simp only [Array.getElem?_modify]
  rw [if_neg (fun e => h (Eq.symm e))]
theorem lay_len (b : List UInt8) (q : Nat) (x : List UInt8) (h : q + x.length ≤ b.length) : (lay b q x).length = b.length := by
  unfold lay; simp; omega
theorem wBytes_len (v : Int) : (wBytes v).data.toList.length = 4 := rfl
theorem outElem_len (a : Arr) (b : List UInt8) (i : Nat) (v : Int) (h4 : a.elem.toNat ≤ 4) (h : a.off.toNat + i * a.elem.toNat + a.elem.toNat ≤ b.length) : (outElem a b i v).length = b.length := by
  unfold outElem
  exact lay_len _ _ _ (by rw [List.length_take, wBytes_len]; omega)
/-- An output's array lies within the output. -/
theorem arrEnd_out (inp out : Int) : ∀ (l : List Arr) (en : Int), 0 ≤ en → (arrEnd inp out l en).isSome = true → ∀ a ∈ l, a.kind = 2 → 0 ≤ a.off ∧ a.off + a.elem * a.len ≤ out
  | [], en, hen, h, a, ha, _ => by simp at ha
  | x :: l, en, hen, h, a, ha, hk => by
    unfold arrEnd at h
    cases hs : arrStep inp out en x with
    | none => rw [hs] at h; simp at h
    | some e =>
      rw [hs] at h
      have hnn := arrStep_nonneg inp out en x hen e hs
      rcases List.mem_cons.1 ha with rfl | ha
      · unfold arrStep at hs
        split at hs
        · cases hs
        · split at hs
          · omega
          · split at hs
            · omega
            · split at hs
              · omega
              · cases hs
      · exact arrEnd_out inp out l e hnn h a ha hk
def outSome (a : Arr) (l : List Int) (b : List UInt8) (n : Nat) : List UInt8 := (List.range n).foldl (fun b i => outElem a b i (l.getD i 0)) b
theorem outSome_succ (a : Arr) (l : List Int) (b : List UInt8) (n : Nat) : outSome a l b (n + 1) = outElem a (outSome a l b n) n (l.getD n 0) := by
  unfold outSome; rw [List.range_succ, List.foldl_append]; rfl
theorem outSome_len (a : Arr) (l : List Int) (b : List UInt8) (h4 : a.elem.toNat ≤ 4) : ∀ n, a.off.toNat + n * a.elem.toNat ≤ b.length → (outSome a l b n).length = b.length
  | 0, _ => rfl
  | n + 1, h => by
    rw [Nat.succ_mul] at h
    have ih := outSome_len a l b h4 n (by omega)
    rw [outSome_succ, outElem_len a _ n _ h4 (by rw [ih]; omega), ih]
theorem outGo_succ (p : Ir) (s : St) (k : Nat) : outGo p s (k + 1) = outArr (p.arrays.getD k arrNone) (s.mem.getD k []) (outGo p s k) := by
  unfold outGo; rw [List.range_succ, List.foldl_append]; rfl
theorem outArr_no {a : Arr} (h : a.kind ≠ 2) (l : List Int) (b : List UInt8) : outArr a l b = b := by unfold outArr; rw [if_neg h]
theorem outArr_yes {a : Arr} (h : a.kind = 2) (l : List Int) (b : List UInt8) : outArr a l b = outSome a l b l.length := by unfold outArr; rw [if_pos h]; rfl
theorem byte_info2 : (Try.prog.info? 5).map (fun i => (i.zero, i.size, i.bytes)) = some (some (.int .u8 0), 1, 1) := by kernel_rfl
theorem made_bytes2 (n : Nat) : madeCells (Value.int .u8 0).cells (n * 1) = bVals (List.replicate n 0) := by
  unfold madeCells bVals
  apply Array.ext_getElem?
  intro j
  by_cases hj : j < n
  · simp [hj, Value.cells, Nat.mod_one]
  · simp [hj]
theorem run_make_bytes2 (n : Nat) (hn : n ≤ 2000000) (W : World) : (Instr.makeSlice 128 (.int .i64 (n : Int)) (.int .i64 (n : Int))).run Try.prog W = .ok (.slice (some ⟨W.heap.size, 0, none⟩) n n) (W.alloc (.cells (bVals (List.replicate n 0)) 5)) := by
  obtain ⟨i0, hi, hz0, hz1, hz2⟩ := info_parts byte_info2
  have h := run_make (P := Try.prog) W 128 5 i0 (.int .u8 0) Try.underlying128 hi hz0 .i64 .i64 (n : Int) (n : Int) (by omega) (by omega) (by rw [hz2]; omega) (by omega)
  rw [hz1] at h
  simp only [Int.toNat_natCast] at h
  rw [made_bytes2] at h
  exact h
/-- A word's bytes, copied into the output's row. -/
theorem run_out_elem (w : World) (g : Nat) (bs : List UInt8) (hg : w.heap[g]? = some (.cells (bVals bs) 5 (0, 0))) (o m cap : Nat) (hm : m ≤ 4) (h : o + m ≤ bs.length) (v : Int) :
    (Builtin.copy_ #[128, 9] 3 #[.slice (some ⟨g, o, none⟩) m cap, .string (wBytes v)]).run Try.prog w = .ok (goInt m) (w.setRow g (bVals (lay bs o ((wBytes v).data.toList.take m)))) := by
  have hsz : (wBytes v).size = 4 := rfl
  rw [run_copy_str2 (P := Try.prog) w 128 9 3 5 g o m cap m (wBytes v) (bVals bs) 5 Try.underlying128 (by kernel_rfl) hg (by rw [hsz]; exact Nat.min_eq_right hm) (by rw [bVals_size]; exact h)]
  congr 2
  rw [bVals_list]
  unfold lay bVals Lib.byteCells
  have hl : ((wBytes v).data.toList.take m).length = m := by rw [List.length_take, wBytes_len]; omega
  rw [hl]
  simp
end Go.Proofs.Ytiaimceefkdchaa
