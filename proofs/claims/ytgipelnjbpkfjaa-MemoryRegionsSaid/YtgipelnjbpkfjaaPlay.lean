/- The contract of hauberklaw07.play: loads and stores, one behind the other, over a memory. No condition but those that each theorem names. -/
import Derived.Test.YtgipelnjbpkfjaaSteps
import Derived.Deep.RegionHeld3
import Derived.Maps.AppendAt
namespace Go.Proofs.Ytgipelnjbpkfjaa
open Go.RowKit

theorem kept_below {a w w' : World} {gb : Nat} (h : a.grownBy w (some gb)) (hb : Below w.heap.size w w') : a.grownBy w' (some gb) :=
  ⟨hb.os.trans h.os, hb.tape.trans h.tape, hb.output.trans h.output, Nat.le_trans h.size hb.size, fun k hk hne => (hb.block k (Nat.lt_of_lt_of_le hk h.size)).trans (h.block k hk hne)⟩
theorem kept_alloc {a w : World} {gb : Nat} (h : a.grownBy w (some gb)) (o : Obj) : a.grownBy (w.alloc o) (some gb) := kept_below h ((Below.refl _ _).alloc (Nat.le_refl _) o)
theorem kept_drew {a w : World} {gb : Nat} (h : a.grownBy w (some gb)) : a.grownBy w.drew (some gb) := ⟨h.os, h.tape, h.output, h.size, h.block⟩
theorem kept_grown {a w w' : World} {gb : Nat} {row : Option Nat} (h : a.grownBy w (some gb)) (hg : w.grownBy w' row) (hr : ∀ b, row = some b → b = gb ∨ a.heap.size ≤ b) : a.grownBy w' (some gb) :=
  ⟨hg.os.trans h.os, hg.tape.trans h.tape, hg.output.trans h.output, Nat.le_trans h.size hg.size, fun k hk hne =>
    (hg.block k (Nat.lt_of_lt_of_le hk h.size) (fun e => by
      rcases hr k e.symm with h1 | h1
      · exact hne (by rw [h1])
      · omega)).trans (h.block k hk hne)⟩
theorem own_far {w : World} {base : Nat} {v : Value} {n : Nat} {ys : List Value} (hO : w.ownsRow base 73 2 v n ys) {g t : Nat} {cs : Array Value} (h : w.heap[g]? = some (.cells cs t (0, 0))) (ht : t ≠ 73) : some g ≠ v.ownBlock := by
  intro e
  rcases hO.2 with ⟨rfl, _⟩ | ⟨g', cap, cur, rfl, _, hb, _⟩
  · simp [Value.ownBlock] at e
  · simp only [Value.ownBlock, Option.some.injEq] at e
    subst e
    rw [h] at hb
    injection hb with hb
    injection hb with _ hb _
    exact ht hb
theorem MemAt.grown {w w' : World} {M gb : Nat} {i o r f : Int} {bs : List UInt8} (h : MemAt w M gb i o r f bs) {base : Nat} {v : Value} {n : Nat} {ys : List Value} (hO : w.ownsRow base 73 2 v n ys) (hg : w.grownBy w' v.ownBlock) : MemAt w' M gb i o r f bs := by
  obtain ⟨gl, gs, cap, cs, h1, h2, h3, h4, h5, h6, h7⟩ := h
  exact ⟨gl, gs, cap, cs, (hg.block _ (lt_of_blk h1) (own_far hO h1 (by decide))).trans h1, (hg.block _ (lt_of_blk h2) (own_far hO h2 (by decide))).trans h2, (hg.block _ (lt_of_blk h3) (own_far hO h3 (by decide))).trans h3, h4, (hg.block _ (lt_of_blk h5) (own_far hO h5 (by decide))).trans h5, h6, h7⟩
def stepAns (i o r f : Int) (bs : List UInt8) (x : St) : Int × Int := if x.kind = 0 then loadRes i o r f bs x.a x.n else (0, storeErr i o r f x.a x.n)
def stepBs (i o r f : Int) (bs : List UInt8) (x : St) : List UInt8 := if x.kind = 0 then bs else storeBs i o r f bs x.a x.n x.v
/-- The bytes behind these steps, and the steps' answers. -/
def playBs (i o r f : Int) (bs : List UInt8) (l : List St) : List UInt8 := l.foldl (stepBs i o r f) bs
def playAns (i o r f : Int) : List UInt8 → List St → List (Int × Int)
  | _, [] => []
  | bs, x :: l => stepAns i o r f bs x :: playAns i o r f (stepBs i o r f bs x) l
theorem playAns_snoc (i o r f : Int) (x : St) : ∀ (l : List St) (bs : List UInt8), playAns i o r f bs (l ++ [x]) = playAns i o r f bs l ++ [stepAns i o r f (playBs i o r f bs l) x]
  | [], bs => rfl
  | y :: l, bs => by simp only [List.cons_append, playAns, playAns_snoc i o r f x l]; rfl
theorem playAns_len (i o r f : Int) : ∀ (l : List St) (bs : List UInt8), (playAns i o r f bs l).length = l.length
  | [], bs => rfl
  | y :: l, bs => by simp only [playAns, List.length_cons, playAns_len i o r f l]
def ansCells (l : List (Int × Int)) : List Value := l.flatMap fun p => [.int .i64 p.1, .int .i64 p.2]
theorem st_take (xs : List St) (k : Nat) (h : k < xs.length) : xs.take (k + 1) = xs.take k ++ [xs.getD k stNone] := by
  rw [List.take_succ_eq_append_getElem h]
  simp [List.getD, List.getElem?_eq_getElem h]
theorem ans_info : (Try.prog.info? 73).map (fun i => (i.zero, i.size, i.bytes)) = some (some (.agg #[.int .i64 0, .int .i64 0]), 2, 16) := by kernel_rfl
theorem wpList_app {P : Program} {w : World} {ops : Array Oper} {rest : List Oper} {o : Oper} {a : Act} {Q : Exit → Act → World → Prop} (hgd : o.guard = none) (s x : Operand) (t : TypeId)
    (ho : o.op = .call { callee := .builtin .append, args := #[s, x], argTypes := #[t, t] }) {v xv v' : Value} {w' : World} (hrun : (Builtin.append_ #[t, t] o.type #[v, xv]).run P w = .ok v' w') (hs : a.eval s = v) (hx : a.eval x = xv)
    (h : wpList P ops Q rest (a.put o.dst v') w') : wpList P ops Q (o :: rest) a w := by
  refine wpList_plain hgd fun K hK => ?_
  unfold Oper.wp execOp
  simp only [ho, resolve, invoke, builtin, Sem.run_bind, Sem.run_pure, Result.andThen_ok, List.map_toArray, List.map_cons, List.map_nil, hs, hx, hrun]
  exact hK _ _ h
theorem step_app {P : Program} {w : World} {ops : Array Oper} {o : Oper} {a : Act} {K : Act → World → Prop} {Q : Exit → Act → World → Prop} {E : Prop} (hgd : o.guard = none) (s x : Operand) (t : TypeId)
    (ho : o.op = .call { callee := .builtin .append, args := #[s, x], argTypes := #[t, t] }) {v xv v' : Value} {w' : World} (hrun : (Builtin.append_ #[t, t] o.type #[v, xv]).run P w = .ok v' w') (hs : a.eval s = v) (hx : a.eval x = xv)
    (h : K (a.put o.dst v') w') : if Region.wanted o (yielded ops a.tmps) = true then Oper.wp P o a w K Q else E := by
  rw [if_pos (by simp [Region.wanted, hgd])]
  unfold Oper.wp execOp
  simp only [ho, resolve, invoke, builtin, Sem.run_bind, Sem.run_pure, Result.andThen_ok, List.map_toArray, List.map_cons, List.map_nil, hs, hx, hrun]
  exact h
def PlayRel (w : World) (M gb : Nat) (i o r f : Int) (bs : List UInt8) (l : List St) (v : Value) (w' : World) : Prop :=
  w.grownBy w' (some gb) ∧ MemAt w' M gb i o r f (playBs i o r f bs l) ∧ w'.ownsRow w.heap.size 73 2 v l.length (ansCells (playAns i o r f bs l))
def PlayPost (w : World) (M gb : Nat) (i o r f : Int) (bs : List UInt8) (l : List St) (e : Ending) (w' : World) : Prop := ∃ v, e = .returned v ∧ PlayRel w M gb i o r f bs l v w'
theorem run_append_ans (w : World) (base : Nat) (v : Value) (n : Nat) (ys : List Value) (hown : w.ownsRow base 73 2 v n ys) (x y : Int) (hn : n ≤ 1000) (hbase : base ≤ w.heap.size) :
    ∃ v' w', (Builtin.append_ #[69, 69] 69 #[v, .slice (some ⟨w.heap.size, 0, none⟩) 1 1]).run Try.prog (w.alloc (.cells #[.int .i64 x, .int .i64 y] 73)) = .ok v' w' ∧
      w'.ownsRow base 73 2 v' (n + 1) (ys ++ [.int .i64 x, .int .i64 y]) ∧ (w.alloc (.cells #[.int .i64 x, .int .i64 y] 73)).grownBy w' v.ownBlock := by
  obtain ⟨i0, hi, hz0, hz1, hz2⟩ := info_parts ans_info
  obtain ⟨v', w', h1, h2, h3, _, _⟩ := run_append_own_at (P := Try.prog) (w.alloc (.cells #[.int .i64 x, .int .i64 y] 73)) base 69 69 73 i0 _ 2 16 Try.underlying69 hi hz0 hz1 hz2 rfl (by omega) v n ys (hown.alloc _) ⟨w.heap.size, 0, none⟩ 1 1 [.int .i64 x, .int .i64 y] rfl (World.news_of_block (heap_alloc_new w _)) (by intro u hu; simp at hu; rcases hu with rfl | rfl <;> rfl) (by unfold maxLen; omega) (by omega) (by simp; omega)
  exact ⟨v', w', h1, h2, h3⟩
theorem play_store_step {w wr w2 : World} {M gb : Nat} {i o r f : Int} {bk sb : List UInt8} {v : Value} {k : Nat} {ys : List Value} (hO : wr.ownsRow w.heap.size 73 2 v k ys) (hM : MemAt wr M gb i o r f bk) (hK : w.grownBy wr (some gb))
    (hk : k ≤ 1000) (hg2 : wr.drew.grownBy w2 (some gb)) (hm2 : MemAt w2 M gb i o r f sb) (x y : Int) :
    ∃ v' w3, (Builtin.append_ #[69, 69] 69 #[v, .slice (some ⟨w2.heap.size, 0, none⟩) 1 1]).run Try.prog (w2.alloc (.cells #[.int .i64 x, .int .i64 y] 73)) = .ok v' w3 ∧
      w3.ownsRow w.heap.size 73 2 v' (k + 1) (ys ++ [.int .i64 x, .int .i64 y]) ∧ w.grownBy w2 (some gb) ∧ w.grownBy (w2.alloc (.cells #[.int .i64 x, .int .i64 y] 73)) (some gb) ∧ w.grownBy w3 (some gb) ∧ MemAt w3 M gb i o r f sb := by
  have hgb : wr.heap[gb]? = some (.cells (byteVals bk) 5 (0, 0)) := by obtain ⟨_, _, _, _, _, _, _, _, h5, _⟩ := hM; exact h5
  have hg2' : wr.grownBy w2 (some gb) := ⟨hg2.os, hg2.tape, hg2.output, hg2.size, hg2.block⟩
  have hO2 := hO.kept hg2' (.inr (fun e => own_far hO hgb (by decide) e.symm))
  have G2 := kept_grown hK hg2' (fun b e => Or.inl (by injection e with e; exact e.symm))
  obtain ⟨v', w3, hrun, ho3, hg3⟩ := run_append_ans w2 w.heap.size v k ys hO2 x y hk G2.size
  have G2a := kept_alloc G2 (.cells #[.int .i64 x, .int .i64 y] 73)
  exact ⟨v', w3, hrun, ho3, G2, G2a, kept_grown G2a hg3 (fun j e => Or.inr (hO2.lt j e).1), MemAt.grown (MemAt.below hm2 ((Below.refl _ _).alloc (Nat.le_refl _) _)) (hO2.alloc _) hg3⟩
set_option maxRecDepth 100000 in
set_option maxHeartbeats 4000000 in
theorem law07_play (M gb : Nat) (i o r f : Int) (bs : List UInt8) (hck : mmCheck i o r f = 0) (A : Option Addr) (c : Nat) (xs : List St) (B0 : Nat) (hB0 : B0 ≤ gb) (hn : xs.length ≤ 100) (hI : ∀ x ∈ xs, x.a ≤ 9223372036854775807) (w : World) (hA : StSl w B0 A xs) (hm : MemAt w M gb i o r f bs) :
    Calls Try.prog 31 #[.pointer (some ⟨M, 0, none⟩), .slice A xs.length c] w (PlayPost w M gb i o r f bs xs) := by
  have HA := Lib.hid hA
  have HI := Lib.hid hI
  have HCK := Lib.hid hck
  have hgbw : gb < w.heap.size := by
    obtain ⟨gl, gs, cap, cs, h1, h2, h3, h4, h5, h6, h7⟩ := hm
    exact lt_of_blk h5
  have HR0 : Hid (PlayRel w M gb i o r f bs (xs.take 0) (.slice none 0 0) w) := Lib.hid ⟨World.grownBy.refl w _, hm, World.ownsRow_nil _ _ _ _⟩
  clear hA hI hck hm
  go_enter Try.func31, Try.ntmps31
  go_wp2_with fail
  go_loopw [5, 6] (fun v j wr => ∃ k : Nat, k ≤ xs.length ∧ j = .int .i64 k ∧ PlayRel w M gb i o r f bs (xs.take k) v wr) (fun _ j _ => xs.length - (intOf j).toNat)
  case atStart => exact ⟨0, by omega, rfl, HR0.out⟩
  case round =>
    obtain ⟨k, hk, rfl, hrel⟩ := hrel
    by_cases hlt : k < xs.length
    · have hne : xs ≠ [] := by intro e; rw [e] at hlt; simp at hlt
      obtain ⟨b, off, rfl, hb0, hcell⟩ := HA.out hne
      obtain ⟨c0, c1, c2, c3⟩ := hcell k hlt
      obtain ⟨hK, hM, hO⟩ := hrel
      have hS : ∀ w', w.grownBy w' (some gb) → (w'.cell? ⟨b, off + k * 4 + 1, none⟩ = some (.int .i64 (xs.getD k stNone).a) ∧ w'.cell? ⟨b, off + k * 4 + 2, none⟩ = some (.int .i64 (xs.getD k stNone).n) ∧ w'.cell? ⟨b, off + k * 4 + 3, none⟩ = some (.int .i64 (xs.getD k stNone).v) ∧ w.grownBy w' (some gb)) := by
        intro w' hg
        have hbk := hg.block b (by omega) (by intro e; injection e with e; omega)
        exact ⟨(World.cell?_of_block (a := ⟨b, off + k * 4 + 1, none⟩) hbk).trans c1, (World.cell?_of_block (a := ⟨b, off + k * 4 + 2, none⟩) hbk).trans c2, (World.cell?_of_block (a := ⟨b, off + k * 4 + 3, none⟩) hbk).trans c3, hg⟩
      have hbk := hK.block b (by omega) (by intro e; injection e with e; omega)
      have d0 : wr.cell? ⟨b, off + k * 4, none⟩ = some (.int .i64 (xs.getD k stNone).kind) := (World.cell?_of_block (a := ⟨b, off + k * 4, none⟩) hbk).trans c0
      have ht := st_take xs k hlt
      have hxa : (xs.getD k stNone).a ≤ 9223372036854775807 := HI.out _ (by rw [List.getD, List.getElem?_eq_getElem hlt]; exact List.getElem_mem hlt)
      have hlk : (xs.take k).length = k := by rw [List.length_take]; omega
      have hpb : playBs i o r f bs (xs.take (k + 1)) = stepBs i o r f (playBs i o r f bs (xs.take k)) (xs.getD k stNone) := by rw [ht]; unfold playBs; rw [List.foldl_append]; rfl
      have hpa : ansCells (playAns i o r f bs (xs.take (k + 1))) = ansCells (playAns i o r f bs (xs.take k)) ++ [.int .i64 (stepAns i o r f (playBs i o r f bs (xs.take k)) (xs.getD k stNone)).1, .int .i64 (stepAns i o r f (playBs i o r f bs (xs.take k)) (xs.getD k stNone)).2] := by
        rw [ht, playAns_snoc]; unfold ansCells; rw [List.flatMap_append]; rfl
      rw [hlk] at hO
      have HPB := Lib.hid hpb
      have HPA := Lib.hid hpa
      have HLK1 : Hid ((xs.take (k + 1)).length = k + 1) := Lib.hid (by rw [List.length_take]; omega)
      generalize ansCells (playAns i o r f bs (xs.take k)) = ys at *
      generalize playBs i o r f bs (xs.take k) = bk at *
      generalize xs.getD k stNone = x at *
      obtain ⟨xk, xa, xn, xv⟩ := x
      simp only at hS hxa d0
      have HS := Lib.hid hS
      have HM : Hid (MemAt wr.drew M gb i o r f bk) := Lib.hid (show MemAt wr.drew M gb i o r f bk from hM)
      have HO := Lib.hid hO
      have HK := Lib.hid hK
      have hw0 := hK
      have k0 : (0 : Int) ≤ (k : Int) := by omega
      have k1 : (k : Int) < (xs.length : Int) := by omega
      clear hcell c0 c1 c2 c3 hbk ht hlk hpb hpa hS hM hO hK hne
      by_cases hk0 : xk = 0
      · subst hk0
        have HLD := Lib.hid (mem_Load M gb i o r f xa xn bk HCK.out hxa)
        have hst : stepAns i o r f bk ⟨0, xa, xn, xv⟩ = loadRes i o r f bk xa xn := rfl
        have hsb : stepBs i o r f bk ⟨0, xa, xn, xv⟩ = bk := rfl
        rw [hst] at HPA
        rw [hsb] at HPB
        generalize loadRes i o r f bk xa xn = res at *
        obtain ⟨rv, re⟩ := res
        unfold pairVal at HLD
        simp only at HLD HPA
        clear hst hsb
        go_wp2_with fail
        go_region_held3 (fun w' => w'.cell? ⟨b, off + k * 4 + 1, none⟩ = some (.int .i64 xa) ∧ w'.cell? ⟨b, off + k * 4 + 2, none⟩ = some (.int .i64 xn) ∧ w'.cell? ⟨b, off + k * 4 + 3, none⟩ = some (.int .i64 xv) ∧ w.grownBy w' (some gb))
          (exact HS.out _ (by first | assumption | exact kept_drew (by assumption)))
          ((go_at_call 33; refine (HLD.out _ HM.out).mono ?_; rintro e w2 ⟨rfl, hb2⟩; have hb3 : Below wr.heap.size wr w2 := ⟨hb2.os, hb2.tape, hb2.output, hb2.size, hb2.block⟩; have G2 := kept_below HK.out hb3))
        have HO2 := Lib.hid (HO.out.kept (row := none) ⟨hb3.os, hb3.tape, hb3.output, hb3.size, fun j hj _ => hb3.block j hj⟩ (by cases hv : u5.ownBlock <;> simp))
        have HM2 := Lib.hid (MemAt.below (w := wr) HM.out hb3)
        have HG2 := Lib.hid G2
        obtain ⟨v', w3, hrun, ho3, hg3⟩ := run_append_ans w2 w.heap.size u5 k ys HO2.out rv re (by omega) G2.size
        have hpr : PlayRel w M gb i o r f bs (xs.take (k + 1)) v' w3 := by
          have hgk := kept_grown (kept_alloc G2 (.cells #[.int .i64 rv, .int .i64 re] 73)) hg3 (fun j e => Or.inr (HO2.out.lt j e).1)
          refine ⟨hgk, ?_, ?_⟩
          · rw [HPB.out]
            exact MemAt.grown (MemAt.below HM2.out ((Below.refl _ _).alloc (Nat.le_refl _) _)) (HO2.out.alloc _) hg3
          · rw [HLK1.out, HPA.out]; exact ho3
        have HPR := Lib.hid hpr
        have HRUN := Lib.hid hrun
        clear hrun ho3 hg3 hpr hb2 hb3 G2
        go_wp2_with (at_builtin; refine wpList_app rfl (.tmp 36) (.tmp 40) 69 rfl HRUN.out rfl rfl ?_)
        go_roundw
        case rel => exact ⟨k + 1, by omega, by go_num, HPR.out⟩
        case measure => simp [intOf]; omega
      · have hq : (xk == 0) = false := by rw [beq_eq_false_iff_ne]; exact hk0
        have HST := Lib.hid (mem_Store M gb i o r f xa xn xv bk HCK.out hxa)
        have hst : stepAns i o r f bk ⟨xk, xa, xn, xv⟩ = (0, storeErr i o r f xa xn) := by unfold stepAns; rw [if_neg hk0]
        have hsb : stepBs i o r f bk ⟨xk, xa, xn, xv⟩ = storeBs i o r f bk xa xn xv := by unfold stepBs; rw [if_neg hk0]
        rw [hst] at HPA
        rw [hsb] at HPB
        generalize storeErr i o r f xa xn = se at *
        generalize storeBs i o r f bk xa xn xv = sb at *
        simp only at HPA
        have HSTEP : Hid (∀ w2, wr.drew.grownBy w2 (some gb) → MemAt w2 M gb i o r f sb → _) := Lib.hid (fun w2 hg2 hm2 => play_store_step HO.out (show MemAt wr M gb i o r f bk from HM.out) HK.out (by omega) hg2 hm2 0 se)
        clear hst hsb hk0
        go_wp2_with fail
        go_region_held3 (fun w' => w'.cell? ⟨b, off + k * 4 + 1, none⟩ = some (.int .i64 xa) ∧ w'.cell? ⟨b, off + k * 4 + 2, none⟩ = some (.int .i64 xn) ∧ w'.cell? ⟨b, off + k * 4 + 3, none⟩ = some (.int .i64 xv) ∧ w.grownBy w' (some gb))
          (exact HS.out _ (by first | assumption | exact kept_drew (by assumption)))
          (first
            | (go_at_call 34; refine (HST.out _ HM.out).mono ?_; rintro e w2 ⟨rfl, hm2, hg2⟩; obtain ⟨v', w3, hrun, ho3, G2, G2a, G3, hm3⟩ := HSTEP.out w2 hg2 hm2)
            | (refine step_app rfl (.tmp 42) (.tmp 61) 69 (by rfl) hrun (by rfl) (by rfl) ?_))
        have hpr : PlayRel w M gb i o r f bs (xs.take (k + 1)) v' w3 := by
          refine ⟨G3, ?_, ?_⟩
          · rw [HPB.out]; exact hm3
          · rw [HLK1.out, HPA.out]; exact ho3
        have HPR := Lib.hid hpr
        clear hrun ho3 G2 G2a G3 hm3 hm2 hg2 hpr
        go_wp2_with fail
        go_roundw
        case rel => exact ⟨k + 1, by omega, by go_num, HPR.out⟩
        case measure => simp [intOf]; omega
    · obtain rfl : k = xs.length := by omega
      rw [List.take_length] at hrel
      have HR := Lib.hid hrel
      clear hrel
      go_wp2_with fail
      go_ret
      exact ⟨_, rfl, HR.out⟩
end Go.Proofs.Ytgipelnjbpkfjaa
