/- Contract of frame.Of. No condition but those that each theorem names. -/
import Derived.Test.YtiaimceefkdchaaIrF
import Derived.Maps.AppendAt
namespace Go.Proofs.Ytiaimceefkdchaa
open Go.RowKit
theorem wpList_app {P : Program} {w : World} {ops : Array Oper} {rest : List Oper} {o : Oper} {a : Act} {Q : Exit → Act → World → Prop} (hgd : o.guard = none) (s x : Operand) (t : TypeId)
    (ho : o.op = .call { callee := .builtin .append, args := #[s, x], argTypes := #[t, t] }) {v xv v' : Value} {w' : World} (hrun : (Builtin.append_ #[t, t] o.type #[v, xv]).run P w = .ok v' w') (hs : a.eval s = v) (hx : a.eval x = xv)
    (h : wpList P ops Q rest (a.put o.dst v') w') : wpList P ops Q (o :: rest) a w := by
  refine wpList_plain hgd fun K hK => ?_
  unfold Oper.wp execOp
  simp only [ho, resolve, invoke, builtin, Sem.run_bind, Sem.run_pure, Result.andThen_ok, List.map_toArray, List.map_cons, List.map_nil, hs, hx, hrun]
  exact hK _ _ h
theorem own_setCell {w : World} {base : Nat} {e : TypeId} {size : Nat} {v : Value} {n : Nat} {xs : List Value} (h : w.ownsRow base e size v n xs) (p : Addr) (u : Value) (hp : p.block < base) : (w.setCell p u).ownsRow base e size v n xs := by
  refine h.kept (grown_setCell w p u) ?_
  cases hv : v.ownBlock with
  | none => exact .inl rfl
  | some k => refine .inr fun e => ?_; injection e with e; have := (h.lt k hv).1; omega
theorem int_info : (Try.prog.info? 3).map (fun i => (i.zero, i.size, i.bytes)) = some (some (.int .i64 0), 1, 8) := by kernel_rfl
theorem info_parts {i : Option TypeInfo} {z : Option Value} {n m : Nat} (h : i.map (fun i => (i.zero, i.size, i.bytes)) = some (z, n, m)) : ∃ i0, i = some i0 ∧ i0.zero = z ∧ i0.size = n ∧ i0.bytes = m := by
  cases i with
  | none => cases h
  | some i0 => simp at h; exact ⟨i0, rfl, h.1, h.2.1, h.2.2⟩
theorem run_append_int (w : World) (base : Nat) (v : Value) (n : Nat) (ys : List Value) (hown : w.ownsRow base 3 1 v n ys) (y : Int) (hn : n ≤ 2000000) (hbase : base ≤ w.heap.size) :
    ∃ v' w', (Builtin.append_ #[26, 26] 26 #[v, .slice (some ⟨w.heap.size, 0, none⟩) 1 1]).run Try.prog (w.alloc (.cells #[.int .i64 y] 3)) = .ok v' w' ∧
      w'.ownsRow base 3 1 v' (n + 1) (ys ++ [.int .i64 y]) ∧ (w.alloc (.cells #[.int .i64 y] 3)).grownBy w' v.ownBlock := by
  obtain ⟨i0, hi, hz0, hz1, hz2⟩ := info_parts int_info
  obtain ⟨v', w', h1, h2, h3, _, _⟩ := run_append_own_at (P := Try.prog) (w.alloc (.cells #[.int .i64 y] 3)) base 26 26 3 i0 _ 1 8 Try.underlying26 hi hz0 hz1 hz2 rfl (by omega) v n ys (hown.alloc _) ⟨w.heap.size, 0, none⟩ 1 1 [.int .i64 y] rfl (World.news_of_block (heap_alloc_new w _)) (by intro u hu; simp at hu; rcases hu with rfl; rfl) (by unfold maxLen; omega) (by omega) (by simp; omega)
  exact ⟨v', w', h1, h2, h3⟩
def frCells (img : Int) (fv : Value) (n : Int) : Array Value := #[.int .i64 img, fv, .int .i64 n]
/-- One array's offset more. -/
theorem fr_step {w1 wr : World} {R : Nat} {img : Int} {fv : Value} {k : Nat} {ys : List Value} (hR : wr.heap[R]? = some (.cells (frCells img fv 0) 28 (0, 0))) (hO : wr.ownsRow (R + 1) 3 1 fv k ys) (hB : Below w1.heap.size w1 wr) (hR1 : w1.heap.size ≤ R) (hk : k ≤ 2000000) (ac : Array Value) (t : TypeId) (x : Int) :
    ∃ v' w3, (Builtin.append_ #[26, 26] 26 #[fv, .slice (some ⟨wr.heap.size + 1, 0, none⟩) 1 1]).run Try.prog ((wr.alloc (.cells ac t)).alloc (.cells #[.int .i64 x] 3)) = .ok v' w3 ∧
      w3.cell? ⟨R, 1, none⟩ = some fv ∧ w3.frozen? ⟨R, 1, none⟩ = false ∧ (w3.setCell ⟨R, 1, none⟩ v').heap[R]? = some (.cells (frCells img v' 0) 28 (0, 0)) ∧ (w3.setCell ⟨R, 1, none⟩ v').ownsRow (R + 1) 3 1 v' (k + 1) (ys ++ [.int .i64 x]) ∧
      Below w1.heap.size w1 (w3.setCell ⟨R, 1, none⟩ v') ∧ (w3.setCell ⟨R, 1, none⟩ v').heap[wr.heap.size]? = some (.cells ac t (0, 0)) := by
  have hRl := lt_of_blk hR
  have hs : (wr.alloc (.cells ac t)).heap.size = wr.heap.size + 1 := by simp
  obtain ⟨v', w3, h1, h2, h3⟩ := run_append_int (wr.alloc (.cells ac t)) (R + 1) fv k ys (hO.alloc _) x hk (by omega)
  rw [hs] at h1
  have hlt := fun b e => (hO.alloc (.cells ac t)).lt b e
  have hown := fun b e => hO.lt b e
  have hR2 : ((wr.alloc (.cells ac t)).alloc (.cells #[.int .i64 x] 3)).heap[R]? = some (.cells (frCells img fv 0) 28 (0, 0)) := by
    have b := bal (bnew wr (.cells ac t)) (.cells #[.int .i64 x] 3)
    exact (b.block _ hRl).trans hR
  have hR3 : w3.heap[R]? = some (.cells (frCells img fv 0) 28 (0, 0)) := (h3.block R (lt_of_blk hR2) (fun e => by have := (hown R e.symm).1; omega)).trans hR2
  have hA2 : ((wr.alloc (.cells ac t)).alloc (.cells #[.int .i64 x] 3)).heap[wr.heap.size]? = some (.cells ac t (0, 0)) := ((bnew (wr.alloc (.cells ac t)) (.cells #[.int .i64 x] 3)).block _ (by rw [hs]; omega)).trans (heap_alloc_new wr _)
  have hA3 : w3.heap[wr.heap.size]? = some (.cells ac t (0, 0)) := (h3.block _ (lt_of_blk hA2) (fun e => by have := (hown _ e.symm).2; omega)).trans hA2
  have hB3 : Below w1.heap.size w1 w3 := (bal (bal hB _) _).grown h3 (bal (bal hB _) _).size (fun b e => by have := (hown b e).1; omega)
  have hg := grown_setCell w3 ⟨R, 1, none⟩ v'
  refine ⟨v', w3, h1, (cell_of_blk hR3 1).1, (cell_of_blk hR3 1).2, blk_set hR3 1 v', own_setCell h2 _ _ (by show R < R + 1; omega), hB3.grown hg hB3.size (fun b e => by injection e with e; subst e; exact hR1), ?_⟩
  exact (hg.block _ (lt_of_blk hA3) (fun e => by injection e with e; have e2 : wr.heap.size = R := e; omega)).trans hA3
theorem own_form {w : World} {base t : Nat} {v : Value} {n : Nat} {ys : List Value} (h : w.ownsRow base t 1 v (n + 1) ys) : ∃ g cap, v = .slice (some ⟨g, 0, none⟩) (n + 1) cap := by
  rcases h.2 with ⟨_, h2⟩ | ⟨g, cap, cur, rfl, _⟩
  · omega
  · exact ⟨g, cap, rfl⟩
theorem own_len {w : World} {base t : Nat} {v : Value} {n : Nat} {ys : List Value} (h : w.ownsRow base t 1 v n ys) : ∃ A cap, v = .slice A n cap := by
  rcases h.2 with ⟨rfl, rfl⟩ | ⟨g, cap, cur, rfl, _⟩
  · exact ⟨none, 0, rfl⟩
  · exact ⟨_, cap, rfl⟩
/-- A block of three cells, stored whole. -/
theorem three_set {w : World} {g : Nat} {t : TypeId} {a b c : Value} (h : w.heap[g]? = some (.cells #[a, b, c] t (0, 0))) (x y z : Value) :
    (((w.setCell ⟨g, 0, none⟩ x).setCell ⟨g, 1, none⟩ y).setCell ⟨g, 2, none⟩ z).heap[g]? = some (.cells #[x, y, z] t (0, 0)) ∧ w.grownBy (((w.setCell ⟨g, 0, none⟩ x).setCell ⟨g, 1, none⟩ y).setCell ⟨g, 2, none⟩ z) (some g) :=
  ⟨blk_set (blk_set (blk_set h 0 x) 1 y) 2 z, grown_two (grown_two (grown_setCell w ⟨g, 0, none⟩ x) (grown_setCell _ ⟨g, 1, none⟩ y)) (grown_setCell _ ⟨g, 2, none⟩ z)⟩
theorem arrEnd_off (inp out : Int) (h0 : inp ≤ 65536) (h1 : out ≤ 65536) : ∀ (l : List Arr) (en : Int), 0 ≤ en → (arrEnd inp out l en).isSome = true → ∀ a ∈ l, 0 ≤ a.off ∧ a.off ≤ 65536
  | [], en, hen, h, a, ha => by simp at ha
  | x :: l, en, hen, h, a, ha => by
    unfold arrEnd at h
    cases hs : arrStep inp out en x with
    | none => rw [hs] at h; simp at h
    | some e =>
      rw [hs] at h
      have hnn := arrStep_nonneg inp out en x hen e hs
      rcases List.mem_cons.1 ha with rfl | ha
      · have hsh : shapedP a := by
          refine Decidable.byContradiction fun hh => ?_
          unfold arrStep at hs
          rw [if_pos hh] at hs; cases hs
        have hp : 0 ≤ a.elem * a.len := by obtain ⟨h4, h5, _⟩ := hsh; rcases h4 with h4 | h4 <;> rw [h4] <;> omega
        unfold arrStep at hs
        rw [if_neg (by simpa using hsh)] at hs
        split at hs
        · split at hs
          · omega
          · cases hs
        · split at hs
          · split at hs
            · omega
            · cases hs
          · split at hs
            · split at hs
              · omega
              · cases hs
            · cases hs
      · exact arrEnd_off inp out h0 h1 l e hnn h a ha
def FrPost (p : Ir) (w : World) (e : Ending) (w' : World) : Prop :=
  ∃ fv, e = .returned (.tuple #[.agg (frCells (frLay p).image fv (frLay p).size), .int .i64 (frErr p)]) ∧ Below w.heap.size w w' ∧ w'.ownsRow w.heap.size 3 1 fv (frLay p).arrays.length ((frLay p).arrays.map (.int .i64 ·))
theorem own_more {w : World} {B B' : Nat} {t n : Nat} {v : Value} {m : Nat} {ys : List Value} (h : w.ownsRow B t n v m ys) (hB : B' ≤ B) : w.ownsRow B' t n v m ys := by
  refine ⟨h.1, ?_⟩
  rcases h.2 with h2 | ⟨g, cap, cur, h2⟩
  · exact Or.inl h2
  · exact Or.inr ⟨g, cap, cur, h2.1, by have := h2.2.1; omega, h2.2.2⟩
set_option maxHeartbeats 4000000 in
set_option maxRecDepth 100000 in
theorem frame_Of (p : Ir) (av bv : Value) (hf : p.fine) (w : World) (hI : IrRep w w.heap.size p av bv) : Calls Try.prog 19 #[irVal p av bv] w (FrPost p w) := by
  have HCK := Lib.hid (fun W h => ir_Check p av bv hf W h)
  have HI0 := Lib.hid hI
  obtain ⟨AA, ac, rfl, hac⟩ := hI.1.form
  have HRA := Lib.hid hI.1
  unfold irVal at HCK ⊢
  unfold FrPost
  clear hI hac
  by_cases he : irErr p = 0
  · obtain ⟨hng, hm⟩ := irErr_ok he
    have hrl := rail_le p hng
    obtain ⟨⟨⟨hi0, hi1, _⟩, ⟨ho0, ho1, _⟩, hT0, _⟩, hae, _⟩ := hm
    have hall := arrEnd_all p.inp p.out p.arrays 0 hae
    have hoff := arrEnd_off p.inp p.out hi1 ho1 p.arrays 0 (by omega) hae
    unfold greatP at hng
    have hT1 : p.temps ≤ 1048576 := by omega
    have hn1 : p.arrays.length ≤ 1048576 := by omega
    have hrs := railSum_nonneg p.arrays
    have HALL := Lib.hid hall
    have HOFF := Lib.hid hoff
    have HSZ : Hid (∀ k, (frGo p (p.arrays.take k)).2 = 4 + 4 * p.temps + p.out + railSum (p.arrays.take k) ∧ 0 ≤ railSum (p.arrays.take k) ∧ railSum (p.arrays.take k) ≤ 65536) := Lib.hid (fun k => by
      have h1 := frGo_size p (p.arrays.take k) ([], frImg p + p.out) (fun a ha => hall a (List.mem_of_mem_take ha))
      have h2 := railSum_take p.arrays k
      have h3 := railSum_nonneg (p.arrays.take k)
      refine ⟨?_, h3, by omega⟩
      unfold frGo
      rw [h1]; unfold frImg; rfl)
    have HFE : Hid (frErr p = if 65536 < (frGo p p.arrays).2 then 18 else 0) := Lib.hid (by unfold frErr; rw [if_neg (by simpa using he)])
    have HLEN : Hid ((frGo p p.arrays).1.length = p.arrays.length) := Lib.hid (by unfold frGo; rw [frGo_len]; simp)
    rw [he] at HCK
    clear hng hae hall hoff hrl hrs he hf
    go_enter Try.func19, Try.ntmps19
    go_wp2_with fail
    refine (HCK.out _ (HI0.out.next (bal (bnew _ _) _))).mono ?_
    rintro e w2 ⟨rfl, hb⟩
    have hx := (hb.block (w.heap.size + 1) (by simp)).trans (alloc_new2 w _ _)
    have hp := (hb.block w.heap.size (by simp; omega)).trans (((bnew (w.alloc _) _).block w.heap.size (by simp)).trans (heap_alloc_new w _))
    have HX := Lib.hid hx
    have HP := Lib.hid hp
    have HB := Lib.hid (bch (bal (bnew _ _) _) hb)
    have hsz : w.heap.size + 2 ≤ w2.heap.size := by have := hb.size; simpa using this
    have c0 : w2.cell? ⟨w.heap.size, 0, none⟩ = some (.int .i64 p.temps) := (cell_of_blk hp 0).1
    have c4 : w2.cell? ⟨w.heap.size, 4, none⟩ = some (.int .i64 p.out) := (cell_of_blk hp 4).1
    have hp3 := ((bnew w2 (.cells #[.int .i64 (4 + 4 * p.temps), .slice none 0 0, .int .i64 0] 28)).block _ (lt_of_blk hp)).trans hp
    have d1 : (w2.alloc (.cells #[.int .i64 (4 + 4 * p.temps), .slice none 0 0, .int .i64 0] 28)).cell? ⟨w.heap.size, 1, none⟩ = some (.slice AA p.arrays.length ac) := (cell_of_blk hp3 1).1
    have d4 : (w2.alloc (.cells #[.int .i64 (4 + 4 * p.temps), .slice none 0 0, .int .i64 0] 28)).cell? ⟨w.heap.size, 4, none⟩ = some (.int .i64 p.out) := (cell_of_blk hp3 4).1
    have hr3 := heap_alloc_new w2 (.cells #[.int .i64 (4 + 4 * p.temps), .slice none 0 0, .int .i64 0] 28)
    have hb3 := bnew w2 (.cells #[.int .i64 (4 + 4 * p.temps), .slice none 0 0, .int .i64 0] 28)
    clear hb hx hp hp3
    go_wp2_with fail
    generalize w2.alloc (.cells #[.int .i64 (4 + 4 * p.temps), .slice none 0 0, .int .i64 0] 28) = w3 at *
    have HR3 := Lib.hid hr3
    have HB3 := Lib.hid hb3
    clear hr3 hb3
    go_loopw [6, 28] (fun nx j wr => ∃ k : Nat, k ≤ p.arrays.length ∧ j = .int .i64 k ∧ nx = .int .i64 (frGo p (p.arrays.take k)).2 ∧ Below w2.heap.size w2 wr ∧ ∃ fv, wr.heap[w2.heap.size]? = some (.cells (frCells (4 + 4 * p.temps) fv 0) 28 (0, 0)) ∧ wr.ownsRow (w2.heap.size + 1) 3 1 fv k ((frGo p (p.arrays.take k)).1.map (.int .i64 ·))) (fun _ j _ => p.arrays.length - (intOf j).toNat)
    case atStart => exact ⟨0, by omega, rfl, by rw [(HSZ.out 0).1]; show _ = Value.int .i64 (4 + 4 * p.temps + p.out + 0); rw [Int.add_zero], HB3.out, .slice none 0 0, HR3.out, World.ownsRow_nil _ _ _ _⟩
    case round =>
      obtain ⟨k, hk, rfl, rfl, hK, fv, hRB, hO⟩ := hrel
      have hsk := HSZ.out k
      by_cases hlt : k < p.arrays.length
      · obtain ⟨b, off, rfl, hb0, x0, x1, x2, x3⟩ := arr_at (HRA.out.below (bch HB.out hK) (Nat.le_refl _)) k hlt
        have hst := frGo_step p k hlt
        have hsh := HALL.out _ (getD_memI p.arrays k arrNone hlt)
        have hofs := HOFF.out _ (getD_memI p.arrays k arrNone hlt)
        generalize p.arrays.getD k arrNone = ar at *
        obtain ⟨e, l, ak, o⟩ := ar
        simp only at x0 x1 x2 x3 hofs hsh
        obtain ⟨ho1', ho2'⟩ := hofs
        generalize hG : frGo p (p.arrays.take k) = G at *
        obtain ⟨gl, gn⟩ := G
        simp only at hsk hO
        obtain ⟨hs1, hs2, hs3⟩ := hsk
        have HK := Lib.hid hK
        have HRB := Lib.hid hRB
        have HO := Lib.hid hO
        have k0 : (0 : Int) ≤ (k : Int) := by omega
        have k1 : (k : Int) < (p.arrays.length : Int) := by omega
        have hgn : 0 ≤ gn ∧ gn ≤ 5000000 := by omega
        obtain ⟨hgn0, hgn1⟩ := hgn
        clear hG hK hRB hO hs1
        by_cases hk1 : ak = 1
        · subst hk1
          have HST : Hid (frGo p (p.arrays.take (k + 1)) = (gl ++ [o], gn)) := Lib.hid hst
          clear hst hsh
          obtain ⟨v', w5, hrun, g1, g2, g3, g4, g5, g6⟩ := fr_step HRB.out HO.out HK.out (Nat.le_refl _) (by omega) #[.int .i64 e, .int .i64 l, .int .i64 1, .int .i64 o] 36 o
          obtain ⟨gv, cv, rfl⟩ := own_form g4
          have HRUN := Lib.hid hrun
          have G3 := Lib.hid g3
          have G4 := Lib.hid g4
          have G5 := Lib.hid g5
          have s0 : (wr.alloc (.cells #[.int .i64 e, .int .i64 l, .int .i64 1, .int .i64 o] 36)).cell? ⟨w2.heap.size, 0, none⟩ = some (.int .i64 (4 + 4 * p.temps)) := (cell_of_blk (((bnew wr _).block _ (lt_of_blk HRB.out)).trans HRB.out) 0).1
          have s1 : (wr.alloc (.cells #[.int .i64 e, .int .i64 l, .int .i64 1, .int .i64 o] 36)).cell? ⟨w2.heap.size, 1, none⟩ = some fv := (cell_of_blk (((bnew wr _).block _ (lt_of_blk HRB.out)).trans HRB.out) 1).1
          clear hrun g3 g4 g5 g6
          go_wp2_with (at_builtin; refine wpList_app rfl (.tmp 54) (.tmp 57) 26 rfl HRUN.out rfl rfl ?_)
          go_roundw
          case rel => exact ⟨k + 1, by omega, by go_num, by rw [HST.out], G5.out, _, G3.out, by rw [HST.out, List.map_append]; exact G4.out⟩
          case measure => simp [intOf]; omega
        · have q1 : (ak == 1) = false := by rw [beq_eq_false_iff_ne]; exact hk1
          by_cases hk2 : ak = 2
          · subst hk2
            have HST : Hid (frGo p (p.arrays.take (k + 1)) = (gl ++ [4 + 4 * p.temps + o], gn)) := Lib.hid hst
            clear hst hsh
            obtain ⟨v', w5, hrun, g1, g2, g3, g4, g5, g6⟩ := fr_step HRB.out HO.out HK.out (Nat.le_refl _) (by omega) #[.int .i64 e, .int .i64 l, .int .i64 2, .int .i64 o] 36 (4 + 4 * p.temps + o)
            obtain ⟨gv, cv, rfl⟩ := own_form g4
            have HRUN := Lib.hid hrun
            have G3 := Lib.hid g3
            have G4 := Lib.hid g4
            have G5 := Lib.hid g5
            have s0 : (wr.alloc (.cells #[.int .i64 e, .int .i64 l, .int .i64 2, .int .i64 o] 36)).cell? ⟨w2.heap.size, 0, none⟩ = some (.int .i64 (4 + 4 * p.temps)) := (cell_of_blk (((bnew wr _).block _ (lt_of_blk HRB.out)).trans HRB.out) 0).1
            have s1 : (wr.alloc (.cells #[.int .i64 e, .int .i64 l, .int .i64 2, .int .i64 o] 36)).cell? ⟨w2.heap.size, 1, none⟩ = some fv := (cell_of_blk (((bnew wr _).block _ (lt_of_blk HRB.out)).trans HRB.out) 1).1
            clear hrun g3 g4 g5 g6
            go_wp2_with (at_builtin; refine wpList_app rfl (.tmp 63) (.tmp 69) 26 rfl HRUN.out rfl rfl ?_)
            go_roundw
            case rel => exact ⟨k + 1, by omega, by go_num, by rw [HST.out], G5.out, _, G3.out, by rw [HST.out, List.map_append]; exact G4.out⟩
            case measure => simp [intOf]; omega
          · have q2 : (ak == 2) = false := by rw [beq_eq_false_iff_ne]; exact hk2
            have HST : Hid (frGo p (p.arrays.take (k + 1)) = (gl ++ [gn], gn + up4 (e * l))) := Lib.hid (by rw [hst]; unfold frStep; rw [if_neg hk1, if_neg hk2])
            obtain ⟨⟨h2, h3, h4⟩, _⟩ := hsh
            simp only at h2 h3 h4
            have hN : wrap64 (e * l) = e * l ∧ 1 ≤ e * l ∧ e * l ≤ 65536 := by rcases h2 with h2 | h2 <;> rw [h2] <;> unfold wrap64 <;> omega
            obtain ⟨e1, hN1, hN2⟩ := hN
            generalize hn : e * l = n at *
            have e2 : wrap64 (e * l) = n := by rw [hn]; exact e1
            clear hst hn h2 h3 h4
            obtain ⟨v', w5, hrun, g1, g2, g3, g4, g5, g6⟩ := fr_step HRB.out HO.out HK.out (Nat.le_refl _) (by omega) #[.int .i64 e, .int .i64 l, .int .i64 ak, .int .i64 o] 36 gn
            obtain ⟨gv, cv, rfl⟩ := own_form g4
            have HRUN := Lib.hid hrun
            have G3 := Lib.hid g3
            have G4 := Lib.hid g4
            have G5 := Lib.hid g5
            have s0 : (wr.alloc (.cells #[.int .i64 e, .int .i64 l, .int .i64 ak, .int .i64 o] 36)).cell? ⟨w2.heap.size, 0, none⟩ = some (.int .i64 (4 + 4 * p.temps)) := (cell_of_blk (((bnew wr _).block _ (lt_of_blk HRB.out)).trans HRB.out) 0).1
            have s1 : (wr.alloc (.cells #[.int .i64 e, .int .i64 l, .int .i64 ak, .int .i64 o] 36)).cell? ⟨w2.heap.size, 1, none⟩ = some fv := (cell_of_blk (((bnew wr _).block _ (lt_of_blk HRB.out)).trans HRB.out) 1).1
            have t0 : (w5.setCell ⟨w2.heap.size, 1, none⟩ (.slice (some ⟨gv, 0, none⟩) (k + 1) cv)).cell? ⟨wr.heap.size, 0, none⟩ = some (.int .i64 e) := (cell_of_blk g6 0).1
            have t1 : (w5.setCell ⟨w2.heap.size, 1, none⟩ (.slice (some ⟨gv, 0, none⟩) (k + 1) cv)).cell? ⟨wr.heap.size, 1, none⟩ = some (.int .i64 l) := (cell_of_blk g6 1).1
            clear hrun g3 g4 g5 g6
            go_wp2_with (at_builtin; refine wpList_app rfl (.tmp 35) (.tmp 37) 26 rfl HRUN.out rfl rfl ?_)
            go_roundw
            case rel => exact ⟨k + 1, by omega, by go_num, by rw [HST.out]; unfold up4; show _ = Value.int .i64 (gn + (n + 3) / 4 * 4); rw [show n + 4 - 1 = n + 3 by omega], G5.out, _, G3.out, by rw [HST.out, List.map_append]; exact G4.out⟩
            case measure => simp [intOf]; omega
      · obtain rfl : k = p.arrays.length := by omega
        rw [List.take_length] at hsk hO ⊢
        generalize hG : frGo p p.arrays = G at *
        obtain ⟨gl, gn⟩ := G
        simp only at hsk hO
        obtain ⟨hs1, hs2, hs3⟩ := hsk
        obtain ⟨FA, cp, rfl⟩ := own_len hO
        have hgn0 : 0 ≤ gn := by omega
        have HRES := Lib.hid ((hK.block (w.heap.size + 1) (lt_of_blk HX.out)).trans HX.out)
        have y2 : wr.cell? ⟨w2.heap.size, 2, none⟩ = some (.int .i64 0) := (cell_of_blk hRB 2).1
        have f2 : wr.frozen? ⟨w2.heap.size, 2, none⟩ = false := (cell_of_blk hRB 2).2
        have hrf := blk_set hRB 2 (.int .i64 gn)
        have hgf := grown_setCell wr ⟨w2.heap.size, 2, none⟩ (.int .i64 gn)
        have HBF := Lib.hid ((bch HB.out hK).grown hgf (bch HB.out hK).size (fun b e => by injection e with e; have e2 : w2.heap.size = b := e; omega))
        have HOF := Lib.hid (own_setCell hO ⟨w2.heap.size, 2, none⟩ (.int .i64 gn) (by show w2.heap.size < w2.heap.size + 1; omega))
        have hxf := (hgf.block (w.heap.size + 1) (lt_of_blk HRES.out) (fun e => by injection e with e; have e2 : w.heap.size + 1 = w2.heap.size := e; omega)).trans HRES.out
        have HXF := Lib.hid hxf
        have r0 : (wr.setCell ⟨w2.heap.size, 2, none⟩ (.int .i64 gn)).cell? ⟨w2.heap.size, 0, none⟩ = some (.int .i64 (4 + 4 * p.temps)) := (cell_of_blk hrf 0).1
        have r1 : (wr.setCell ⟨w2.heap.size, 2, none⟩ (.int .i64 gn)).cell? ⟨w2.heap.size, 1, none⟩ = some (.slice FA p.arrays.length cp) := (cell_of_blk hrf 1).1
        have r2 : (wr.setCell ⟨w2.heap.size, 2, none⟩ (.int .i64 gn)).cell? ⟨w2.heap.size, 2, none⟩ = some (.int .i64 gn) := (cell_of_blk hrf 2).1
        have z0 := (cell_of_blk hxf 0).1
        have z1 := (cell_of_blk hxf 1).1
        have z2 := (cell_of_blk hxf 2).1
        have u0 := (cell_of_blk hxf 0).2
        have u1 := (cell_of_blk hxf 1).2
        have u2 := (cell_of_blk hxf 2).2
        simp only [List.getElem?_toArray, List.getElem?_cons_zero, List.getElem?_cons_succ] at z0 z1 z2
        have HGG : Hid (frGo p p.arrays = (gl, gn)) := Lib.hid hG
        have HLL : Hid (gl.length = p.arrays.length) := Lib.hid HLEN.out
        have HFF : Hid (frErr p = if 65536 < gn then 18 else 0) := Lib.hid HFE.out
        clear hK hRB hO hrf hgf hxf hs1 hG
        by_cases hbig : 65536 < gn
        · have hfe : frErr p = 18 := by rw [HFF.out, if_pos hbig]
          have hfl : frLay p = ⟨0, [], 0⟩ := by unfold frLay; rw [hfe, if_neg (by decide)]
          have HFL := Lib.hid hfl
          have HFEE := Lib.hid hfe
          clear hfe hfl
          go_wp2_with fail
          obtain ⟨hx4, hg4⟩ := three_set HXF.out (.int .i64 0) (.slice none 0 0) (.int .i64 0)
          have hb4 := HBF.out.grown hg4 HBF.out.size (fun b e => by injection e with e; have e2 : w.heap.size + 1 = b := e; omega)
          have ho4 := HOF.out.kept hg4 (by cases hv : (Value.slice FA p.arrays.length cp).ownBlock with
            | none => exact .inl rfl
            | some k => exact .inr (fun e => by injection e with e; have := (HOF.out.lt k hv).1; omega))
          generalize (((wr.setCell ⟨w2.heap.size, 2, none⟩ (.int .i64 gn)).setCell ⟨w.heap.size + 1, 0, none⟩ (.int .i64 0)).setCell ⟨w.heap.size + 1, 1, none⟩ (.slice none 0 0)).setCell ⟨w.heap.size + 1, 2, none⟩ (.int .i64 0) = w4 at *
          have m0 : w4.cell? ⟨w.heap.size + 1, 0, none⟩ = some (.int .i64 0) := (cell_of_blk hx4 0).1
          have m1 : w4.cell? ⟨w.heap.size + 1, 1, none⟩ = some (.slice none 0 0) := (cell_of_blk hx4 1).1
          have m2 : w4.cell? ⟨w.heap.size + 1, 2, none⟩ = some (.int .i64 0) := (cell_of_blk hx4 2).1
          clear hx4 hg4
          refine bodyPost_ret (by simp [results, Try.results19, go_sem, m0, m1, m2]; try rfl) rfl ?_
          exact ⟨.slice none 0 0, by rw [HFL.out, HFEE.out]; rfl, hb4, by rw [HFL.out]; exact World.ownsRow_nil _ _ _ _⟩
        · have hfe : frErr p = 0 := by rw [HFF.out, if_neg hbig]
          have hfl : frLay p = ⟨4 + 4 * p.temps, gl, gn⟩ := by unfold frLay; rw [if_pos hfe, HGG.out]; rfl
          have HFL := Lib.hid hfl
          have HFEE := Lib.hid hfe
          clear hfe hfl
          go_wp2_with fail
          obtain ⟨hx4, hg4⟩ := three_set HXF.out (.int .i64 (4 + 4 * p.temps)) (.slice FA p.arrays.length cp) (.int .i64 gn)
          have hb4 := HBF.out.grown hg4 HBF.out.size (fun b e => by injection e with e; have e2 : w.heap.size + 1 = b := e; omega)
          have ho4 := HOF.out.kept hg4 (by cases hv : (Value.slice FA p.arrays.length cp).ownBlock with
            | none => exact .inl rfl
            | some k => exact .inr (fun e => by injection e with e; have := (HOF.out.lt k hv).1; omega))
          generalize (((wr.setCell ⟨w2.heap.size, 2, none⟩ (.int .i64 gn)).setCell ⟨w.heap.size + 1, 0, none⟩ (.int .i64 (4 + 4 * p.temps))).setCell ⟨w.heap.size + 1, 1, none⟩ (.slice FA p.arrays.length cp)).setCell ⟨w.heap.size + 1, 2, none⟩ (.int .i64 gn) = w4 at *
          have m0 : w4.cell? ⟨w.heap.size + 1, 0, none⟩ = some (.int .i64 (4 + 4 * p.temps)) := (cell_of_blk hx4 0).1
          have m1 : w4.cell? ⟨w.heap.size + 1, 1, none⟩ = some (.slice FA p.arrays.length cp) := (cell_of_blk hx4 1).1
          have m2 : w4.cell? ⟨w.heap.size + 1, 2, none⟩ = some (.int .i64 gn) := (cell_of_blk hx4 2).1
          clear hx4 hg4
          refine bodyPost_ret (by simp [results, Try.results19, go_sem, m0, m1, m2]; try rfl) rfl ?_
          exact ⟨.slice FA p.arrays.length cp, by rw [HFL.out, HFEE.out]; rfl, hb4, by rw [HFL.out]; show w4.ownsRow _ _ _ _ gl.length _; rw [HLL.out]; exact own_more ho4 (by omega)⟩
  · have hq : (irErr p != 0) = true := by rw [bne_iff_ne]; exact he
    have hfe : frErr p = irErr p := by unfold frErr; rw [if_pos he]
    have hfl : frLay p = ⟨0, [], 0⟩ := by unfold frLay; rw [hfe, if_neg he]
    rw [hfe, hfl]
    generalize irErr p = R at *
    clear he hfe hfl
    go_enter Try.func19, Try.ntmps19
    go_wp2_with fail
    refine (HCK.out _ (HI0.out.next (bal (bnew _ _) _))).mono ?_
    rintro e w2 ⟨rfl, hb⟩
    have hx := (hb.block (w.heap.size + 1) (by simp)).trans (alloc_new2 w _ _)
    have HX := Lib.hid hx
    have HB := Lib.hid (bch (bal (bnew _ _) _) hb)
    have hsz := hb.size
    have z0 := (cell_of_blk hx 0).1
    have z1 := (cell_of_blk hx 1).1
    have z2 := (cell_of_blk hx 2).1
    have y0 := (cell_of_blk hx 0).2
    have y1 := (cell_of_blk hx 1).2
    have y2 := (cell_of_blk hx 2).2
    clear hb
    go_wp2_with fail
    have hx4 := blk_set (blk_set (blk_set hx 0 (.int .i64 0)) 1 (.slice none 0 0)) 2 (.int .i64 0)
    have hg1 := grown_setCell w2 ⟨w.heap.size + 1, 0, none⟩ (.int .i64 0)
    have hg2 := grown_setCell (w2.setCell ⟨w.heap.size + 1, 0, none⟩ (.int .i64 0)) ⟨w.heap.size + 1, 1, none⟩ (.slice none 0 0)
    have hg3 := grown_setCell ((w2.setCell ⟨w.heap.size + 1, 0, none⟩ (.int .i64 0)).setCell ⟨w.heap.size + 1, 1, none⟩ (.slice none 0 0)) ⟨w.heap.size + 1, 2, none⟩ (.int .i64 0)
    have hb4 := HB.out.grown (grown_two (grown_two hg1 hg2) hg3) HB.out.size (fun b e => by injection e with e; have e2 : w.heap.size + 1 = b := e; omega)
    generalize ((w2.setCell ⟨w.heap.size + 1, 0, none⟩ (.int .i64 0)).setCell ⟨w.heap.size + 1, 1, none⟩ (.slice none 0 0)).setCell ⟨w.heap.size + 1, 2, none⟩ (.int .i64 0) = w4 at *
    have k0 : w4.cell? ⟨w.heap.size + 1, 0, none⟩ = some (.int .i64 0) := (cell_of_blk hx4 0).1
    have k1 : w4.cell? ⟨w.heap.size + 1, 1, none⟩ = some (.slice none 0 0) := (cell_of_blk hx4 1).1
    have k2 : w4.cell? ⟨w.heap.size + 1, 2, none⟩ = some (.int .i64 0) := (cell_of_blk hx4 2).1
    clear hg1 hg2 hg3 hx4 hx z0 z1 z2 y0 y1 y2
    refine bodyPost_ret (by simp [results, Try.results19, go_sem, k0, k1, k2]; try rfl) rfl ?_
    exact ⟨.slice none 0 0, rfl, hb4, World.ownsRow_nil _ _ _ _⟩
end Go.Proofs.Ytiaimceefkdchaa
