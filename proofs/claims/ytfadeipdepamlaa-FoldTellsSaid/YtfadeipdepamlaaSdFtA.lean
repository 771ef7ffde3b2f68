/- Parts of a proof. No condition but those that each theorem names. -/
import Derived.WalkKit
import Derived.OpenShut
import Derived.Below
import Derived.Lib.Hide
import Derived.Laws.OwnMore
import Derived.Deep.QuietTactic
import Derived.Deep.AppendLies
import Derived.ProofKit
import Derived.SizedLaws
import Derived.Test.YtfadeipdepamlaaProg
import Derived.Handy
import Derived.Deep.RegionHeld3
import Derived.BigQuiet
import Derived.Maps.AppendAt
import Derived.Maps.RangeWalk
import Derived.Maps.OwnSet
import Derived.StillTailTactics
import Derived.Laws.CopyOwn
import Derived.Lib.BufferWrite
import Derived.OrdersHeld
import Derived.RegionTactic
import Derived.Deep.DeepCutAuto
import Derived.Test.YtfadeipdepamlaaSdG0e0
import Derived.Test.YtfadeipdepamlaaSdG0e1
import Derived.Test.YtfadeipdepamlaaSdIr
import Derived.Test.YtfadeipdepamlaaSdG1e2
import Derived.Test.YtfadeipdepamlaaSdG1e4
import Derived.Test.YtfadeipdepamlaaSdIrC
import Derived.Test.YtfadeipdepamlaaSdG2e5
import Derived.Test.YtfadeipdepamlaaSdG2e6
import Derived.Test.YtfadeipdepamlaaSdG0e11
import Derived.Test.YtfadeipdepamlaaSdG2e13
import Derived.Test.YtfadeipdepamlaaSdCopB
import Derived.Test.YtfadeipdepamlaaSdG3e14
import Derived.Test.YtfadeipdepamlaaSdRefU
import Derived.Test.YtfadeipdepamlaaSdFoldM
import Derived.Test.YtfadeipdepamlaaSdG4e14
namespace Go.Proofs.Ytfadeipdepamlaa
open Go.RowKit
set_option linter.unusedVariables false
def KnPost (x : Option Int) (w : World) (e : Ending) (w' : World) : Prop := (∃ n : Int, e = .returned (.tuple #[.int .i64 n, .bool x.isSome]) ∧ ∀ m, x = some m → n = m) ∧ Below w.heap.size w w'
theorem ftNum_is (o : Opn) : (ftNum o).isSome = decide (o.kind = 1) := by
  unfold ftNum
  by_cases h : o.kind = 1
  · rw [if_pos h, decide_eq_true h]; rfl
  · rw [if_neg h, decide_eq_false h]; rfl
theorem ftNum_eq (o : Opn) (m : Int) (h : ftNum o = some m) : o.imm = m := by
  unfold ftNum at h
  split at h
  · injection h
  · cases h
set_option maxRecDepth 100000 in
set_option maxHeartbeats 4000000 in
theorem ref19_known (l : List Opn) (A : Option Addr) (c : Nat) (t : Int) (hn : l.length ≤ 2000000) (w : World) (h : SlRep opEnc w w.heap.size (.slice A l.length c) l) :
    Calls Try.prog 40 #[.slice A l.length c, .int .i64 t] w (KnPost (ftKn l t) w) := by
  have HL := Lib.hid h
  have HMK := Lib.hid (fun o W => ref_Makes o W)
  generalize hPO : KnPost (ftKn l t) w = PO
  have HPO := Lib.hid hPO
  clear h hPO
  go_enter Try.func40, Try.ntmps40
  go_wp2_with fail
  go_loopw [6] (fun vi wr => ∃ (k : Nat) (i : Int), k ≤ l.length ∧ i = (k : Int) - 1 ∧ vi = .int .i64 i ∧ Below w.heap.size w wr ∧ Hid (ftKn l t = ftKn (l.take k) t)) (fun vi _ => (intOf vi + 1).toNat)
  case atStart => exact ⟨l.length, (l.length : Int) - 1, Nat.le_refl _, rfl, by go_num, Below.refl _ _, Lib.hid (by rw [List.take_length])⟩
  case round =>
    obtain ⟨k, i, hk, hi, rfl, hb, HK⟩ := hrel
    have HB := Lib.hid hb
    clear hb
    by_cases h0 : 0 ≤ i
    · obtain ⟨j, rfl⟩ : ∃ j : Nat, i = (j : Int) := ⟨i.toNat, by omega⟩
      obtain rfl : k = j + 1 := by omega
      clear hi
      have hlr : SlRep opEnc wr w.heap.size (.slice A l.length c) l := HL.out.below HB.out (Nat.le_refl _)
      obtain ⟨b, off, rfl, hb0, c0, c1, c2, c3, c4, c5⟩ := op_at hlr j (by omega)
      have HT : Hid (_ = _) := Lib.hid (ftKn_take l t j (by omega))
      clear hlr
      generalize l.getD j opNone = o at *
      have HT2 := Lib.hid (HK.out.trans HT.out)
      have k1 : (j : Int) < (l.length : Int) := by omega
      have hc0 : ∀ W, Below w.heap.size w W → ∀ q, W.cell? ⟨b, q, none⟩ = w.cell? ⟨b, q, none⟩ := fun W hW q => hW.cell (p := ⟨b, q, none⟩) hb0
      have HC0 := Lib.hid hc0
      clear hc0 HT
      go_wp2_with fail
      refine (HMK.out o _).mono ?_
      rintro e w2 ⟨rfl, hb⟩
      have hsz := HB.out.size
      have HB2 := Lib.hid (HB.out.trans (hb.mono hsz))
      have e0 := fun q => (HC0.out _ HB2.out q).trans (HC0.out _ HB.out q).symm
      rw [← e0] at c0 c1 c2 c3 c4 c5
      clear e0 hb hsz
      by_cases hd : fDst o.kind = true
      · rw [hd]
        by_cases ht : o.dst = t
        · have hh : ftHit t o = true := by unfold ftHit; rw [hd, decide_eq_true ht]; rfl
          have HF : Hid (ftKn l t = ftNum o) := Lib.hid (by rw [HT2.out, if_pos hh])
          have q1 : (o.dst == t) = true := by rw [beq_iff_eq]; exact ht
          have HD : Hid (decide (o.kind = 1) = (o.kind == 1)) := Lib.hid (by by_cases h : o.kind = 1 <;> simp [h])
          clear hh ht hd
          go_wp2_with fail
          all_goals (try (go_quiet (fail)))
          all_goals go_wp2_with fail
          rw [← HPO.out]
          refine ⟨⟨o.imm, ?_, fun m hm => ftNum_eq o m (HF.out ▸ hm)⟩, bdrawn HB2.out _⟩
          exact (by rw [HF.out, ftNum_is, HD.out] : Ending.returned (.tuple #[.int .i64 o.imm, .bool (o.kind == 1)]) = Ending.returned (.tuple #[.int .i64 o.imm, .bool (ftKn l t).isSome]))
        · have hh : ftHit t o = false := by unfold ftHit; rw [decide_eq_false ht, Bool.and_false]
          have HF : Hid (ftKn l t = ftKn (l.take j) t) := Lib.hid (by rw [HT2.out, hh]; rfl)
          have q1 : (o.dst == t) = false := by rw [beq_eq_false_iff_ne]; exact ht
          clear hh ht hd
          go_wp2_with fail
          go_roundw
          case rel => exact ⟨j, (j : Int) - 1, by omega, rfl, by first | rfl | go_num, HB2.out, HF⟩
          case measure => simp [intOf]
      · have hd : fDst o.kind = false := by simpa using hd
        have hh : ftHit t o = false := by unfold ftHit; rw [hd]; rfl
        have HF : Hid (ftKn l t = ftKn (l.take j) t) := Lib.hid (by rw [HT2.out, hh]; rfl)
        rw [hd]
        clear hh hd
        go_wp2_with fail
        go_roundw
        case rel => exact ⟨j, (j : Int) - 1, by omega, rfl, by first | rfl | go_num, HB2.out, HF⟩
        case measure => simp [intOf]
    · obtain rfl : k = 0 := by omega
      obtain rfl : i = -1 := by omega
      clear h0 hi
      go_wp2_with fail
      rw [← HPO.out]
      refine ⟨⟨0, ?_, fun m hm => ?_⟩, HB.out⟩
      · rw [HK.out]; rfl
      · rw [HK.out] at hm; cases hm
set_option maxRecDepth 100000 in
set_option maxHeartbeats 4000000 in
theorem ref19_is (l : List Opn) (f : Int → Option Int) (hl : FtOf l f) (A : Option Addr) (c : Nat) (t m : Int) (hn : l.length ≤ 2000000) (w : World) (h : SlRep opEnc w w.heap.size (.slice A l.length c) l) :
    Calls Try.prog 42 #[.slice A l.length c, .int .i64 t, .int .i64 m] w fun e w' => e = .returned (.bool (fdIs f t m)) ∧ Below w.heap.size w w' := by
  have HK := Lib.hid (ref19_known l A c t hn w h)
  rw [hl t] at HK
  unfold fdIs
  clear h hl
  go_enter Try.func42, Try.ntmps42
  go_wp2_with fail
  refine HK.out.mono ?_
  rintro e w2 ⟨⟨n, rfl, hv⟩, hb⟩
  cases hf : f t with
  | none =>
    simp only [Option.isSome_none]
    have HFT := Lib.hid hf
    clear hv hf
    go_wp2_with fail
    go_ret
    exact ⟨ret_bool (by rw [HFT.out]; simp), hb⟩
  | some x =>
    obtain rfl := hv x hf
    simp only [Option.isSome_some]
    have HFT := Lib.hid hf
    clear hv hf
    go_wp2_with fail
    go_ret
    refine ⟨ret_bool ?_, hb⟩
    rw [HFT.out]
    by_cases hc : n = m
    · subst hc; simp
    · have q : (n == m) = false := by rw [beq_eq_false_iff_ne]; exact hc
      simp [hc]
set_option maxRecDepth 100000 in
set_option maxHeartbeats 4000000 in
theorem ref19_to (l : List Opn) (f : Int → Option Int) (hl : FtOf l f) (A : Option Addr) (c : Nat) (o : Opn) (t : Int) (hn : l.length ≤ 2000000) (w : World) (h : SlRep opEnc w w.heap.size (.slice A l.length c) l) :
    Calls Try.prog 43 #[.slice A l.length c, opVal o, .int .i64 t] w (CopPost (fdCopied f o t) w) := by
  have HK := Lib.hid (fun W h => ref19_known l A c t hn W h)
  rw [hl t] at HK
  generalize hPO : CopPost (fdCopied f o t) w = PO
  have HPO := Lib.hid hPO
  unfold opVal
  clear hl hPO
  have e1 := alloc_size w (.cells #[.int .i64 o.kind, .int .i64 o.dst, .int .i64 o.a, .int .i64 o.b, .int .i64 o.c, .int .i64 o.imm] 41) rfl
  have hX := alloc_old (alloc_last w _ rfl (.cells #[.int .i64 o.kind, .int .i64 o.dst, .int .i64 o.a, .int .i64 o.b, .int .i64 o.c, .int .i64 o.imm] 41)) (.cells #[.int .i64 0, .int .i64 0, .int .i64 0, .int .i64 0, .int .i64 0, .int .i64 0] 41)
  have hR := alloc_last _ _ e1 (.cells #[.int .i64 0, .int .i64 0, .int .i64 0, .int .i64 0, .int .i64 0, .int .i64 0] 41)
  have hB := bal (bnew w (.cells #[.int .i64 o.kind, .int .i64 o.dst, .int .i64 o.a, .int .i64 o.b, .int .i64 o.c, .int .i64 o.imm] 41)) (.cells #[.int .i64 0, .int .i64 0, .int .i64 0, .int .i64 0, .int .i64 0, .int .i64 0] 41)
  have HL := Lib.hid (h.next hB)
  clear h
  go_enter Try.func43, Try.ntmps43
  go_upto_region 1 with (fail)
  generalize (w.alloc (.cells #[.int .i64 o.kind, .int .i64 o.dst, .int .i64 o.a, .int .i64 o.b, .int .i64 o.c, .int .i64 o.imm] 41)).alloc (.cells #[.int .i64 0, .int .i64 0, .int .i64 0, .int .i64 0, .int .i64 0, .int .i64 0] 41) = w1 at *
  have HX := Lib.hid hX
  have HR := Lib.hid hR
  have HB := Lib.hid hB
  clear hX hR hB e1
  go_wp2_with fail
  refine (HK.out _ HL.out).mono ?_
  rintro e w2 ⟨⟨n, rfl, hv⟩, hb⟩
  have hX' := (hb.block _ (lt_of_blk HX.out)).trans HX.out
  have hR' := (hb.block _ (lt_of_blk HR.out)).trans HR.out
  have hB' := bch HB.out hb
  have hL' := HL.out.next hb
  have HX := Lib.hid hX'
  have HR := Lib.hid hR'
  have HB := Lib.hid hB'
  have HL := Lib.hid hL'
  clear hX' hR' hB' hL' hb
  obtain ⟨c0, c1, c2, c3, c4, c5, _, _, _, _⟩ := op_cells_at HX.out
  obtain ⟨r0, s0⟩ := cell_of_blk HR.out 0
  obtain ⟨r1, s1⟩ := cell_of_blk HR.out 1
  obtain ⟨r2, s2⟩ := cell_of_blk HR.out 2
  obtain ⟨r3, s3⟩ := cell_of_blk HR.out 3
  obtain ⟨r4, s4⟩ := cell_of_blk HR.out 4
  obtain ⟨r5, s5⟩ := cell_of_blk HR.out 5
  cases hf : f t with
  | none =>
    simp only [Option.isSome_none]
    have HFT := Lib.hid hf
    clear hv hf
    go_wp2_with fail
    clear c0 c1 c2 c3 c4 c5
    have hr7 := (blk_set (blk_set (blk_set (blk_set (blk_set (blk_set HR.out 0 (.int .i64 2)) 1 (.int .i64 o.dst)) 2 (.int .i64 t)) 3 (.int .i64 0)) 4 (.int .i64 0)) 5 (.int .i64 0))
    have hB7 := ((((((HB.out.setCell (p := ⟨w.heap.size + 1, 0, none⟩) (by show w.heap.size ≤ w.heap.size + 1; omega) (.int .i64 2)).setCell (p := ⟨w.heap.size + 1, 1, none⟩) (by show w.heap.size ≤ w.heap.size + 1; omega) (.int .i64 o.dst)).setCell (p := ⟨w.heap.size + 1, 2, none⟩) (by show w.heap.size ≤ w.heap.size + 1; omega) (.int .i64 t)).setCell (p := ⟨w.heap.size + 1, 3, none⟩) (by show w.heap.size ≤ w.heap.size + 1; omega) (.int .i64 0)).setCell (p := ⟨w.heap.size + 1, 4, none⟩) (by show w.heap.size ≤ w.heap.size + 1; omega) (.int .i64 0)).setCell (p := ⟨w.heap.size + 1, 5, none⟩) (by show w.heap.size ≤ w.heap.size + 1; omega) (.int .i64 0))
    generalize (((((w2.setCell ⟨w.heap.size + 1, 0, none⟩ (.int .i64 2)).setCell ⟨w.heap.size + 1, 1, none⟩ (.int .i64 o.dst)).setCell ⟨w.heap.size + 1, 2, none⟩ (.int .i64 t)).setCell ⟨w.heap.size + 1, 3, none⟩ (.int .i64 0)).setCell ⟨w.heap.size + 1, 4, none⟩ (.int .i64 0)).setCell ⟨w.heap.size + 1, 5, none⟩ (.int .i64 0) = w7 at *
    have k0 : w7.cell? ⟨w.heap.size + 1, 0, none⟩ = some (.int .i64 2) := (cell_of_blk hr7 0).1
    have k1 : w7.cell? ⟨w.heap.size + 1, 1, none⟩ = some (.int .i64 o.dst) := (cell_of_blk hr7 1).1
    have k2 : w7.cell? ⟨w.heap.size + 1, 2, none⟩ = some (.int .i64 t) := (cell_of_blk hr7 2).1
    have k3 : w7.cell? ⟨w.heap.size + 1, 3, none⟩ = some (.int .i64 0) := (cell_of_blk hr7 3).1
    have k4 : w7.cell? ⟨w.heap.size + 1, 4, none⟩ = some (.int .i64 0) := (cell_of_blk hr7 4).1
    have k5 : w7.cell? ⟨w.heap.size + 1, 5, none⟩ = some (.int .i64 0) := (cell_of_blk hr7 5).1
    clear hr7 r0 r1 r2 r3 r4 r5 s0 s1 s2 s3 s4 s5
    refine bodyPost_ret (v := .agg #[.int .i64 2, .int .i64 o.dst, .int .i64 t, .int .i64 0, .int .i64 0, .int .i64 0]) (by simp [results, Try.results43, go_sem, k0, k1, k2, k3, k4, k5]; try rfl) rfl ?_
    rw [← HPO.out]; exact ⟨by unfold fdCopied; rw [HFT.out]; rfl, hB7⟩
  | some x =>
    obtain rfl := hv x hf
    simp only [Option.isSome_some]
    have HFT := Lib.hid hf
    clear hv hf
    go_wp2_with fail
    clear c0 c1 c2 c3 c4 c5
    have hr7 := (blk_set (blk_set (blk_set (blk_set (blk_set (blk_set HR.out 0 (.int .i64 1)) 1 (.int .i64 o.dst)) 2 (.int .i64 0)) 3 (.int .i64 0)) 4 (.int .i64 0)) 5 (.int .i64 n))
    have hB7 := ((((((HB.out.setCell (p := ⟨w.heap.size + 1, 0, none⟩) (by show w.heap.size ≤ w.heap.size + 1; omega) (.int .i64 1)).setCell (p := ⟨w.heap.size + 1, 1, none⟩) (by show w.heap.size ≤ w.heap.size + 1; omega) (.int .i64 o.dst)).setCell (p := ⟨w.heap.size + 1, 2, none⟩) (by show w.heap.size ≤ w.heap.size + 1; omega) (.int .i64 0)).setCell (p := ⟨w.heap.size + 1, 3, none⟩) (by show w.heap.size ≤ w.heap.size + 1; omega) (.int .i64 0)).setCell (p := ⟨w.heap.size + 1, 4, none⟩) (by show w.heap.size ≤ w.heap.size + 1; omega) (.int .i64 0)).setCell (p := ⟨w.heap.size + 1, 5, none⟩) (by show w.heap.size ≤ w.heap.size + 1; omega) (.int .i64 n))
    generalize (((((w2.setCell ⟨w.heap.size + 1, 0, none⟩ (.int .i64 1)).setCell ⟨w.heap.size + 1, 1, none⟩ (.int .i64 o.dst)).setCell ⟨w.heap.size + 1, 2, none⟩ (.int .i64 0)).setCell ⟨w.heap.size + 1, 3, none⟩ (.int .i64 0)).setCell ⟨w.heap.size + 1, 4, none⟩ (.int .i64 0)).setCell ⟨w.heap.size + 1, 5, none⟩ (.int .i64 n) = w7 at *
    have k0 : w7.cell? ⟨w.heap.size + 1, 0, none⟩ = some (.int .i64 1) := (cell_of_blk hr7 0).1
    have k1 : w7.cell? ⟨w.heap.size + 1, 1, none⟩ = some (.int .i64 o.dst) := (cell_of_blk hr7 1).1
    have k2 : w7.cell? ⟨w.heap.size + 1, 2, none⟩ = some (.int .i64 0) := (cell_of_blk hr7 2).1
    have k3 : w7.cell? ⟨w.heap.size + 1, 3, none⟩ = some (.int .i64 0) := (cell_of_blk hr7 3).1
    have k4 : w7.cell? ⟨w.heap.size + 1, 4, none⟩ = some (.int .i64 0) := (cell_of_blk hr7 4).1
    have k5 : w7.cell? ⟨w.heap.size + 1, 5, none⟩ = some (.int .i64 n) := (cell_of_blk hr7 5).1
    clear hr7 r0 r1 r2 r3 r4 r5 s0 s1 s2 s3 s4 s5
    refine bodyPost_ret (v := .agg #[.int .i64 1, .int .i64 o.dst, .int .i64 0, .int .i64 0, .int .i64 0, .int .i64 n]) (by simp [results, Try.results43, go_sem, k0, k1, k2, k3, k4, k5]; try rfl) rfl ?_
    rw [← HPO.out]; exact ⟨by unfold fdCopied; rw [HFT.out]; rfl, hB7⟩
def FtTrm (q : Trm) (w : World) (e : Ending) (w' : World) : Prop := e = .returned (trmVal q) ∧ Below w.heap.size w w'
theorem ref19_Term_no (l : List Opn) (A : Option Addr) (c : Nat) (f : Int → Option Int) (t : Trm) (hk : t.kind ≠ 2) (w : World) :
    Calls Try.prog 21 #[.slice A l.length c, trmVal t] w (FtTrm (fdTrm f t) w) := by
  have hq : fdTrm f t = t := by unfold fdTrm; rw [if_neg hk]
  rw [hq]
  have q : (t.kind != 2) = true := by rw [bne_iff_ne]; exact hk
  unfold trmVal
  clear hq hk
  have e1 := alloc_size w (.cells #[.int .i64 t.kind, .int .i64 t.a, .int .i64 t.yes, .int .i64 t.no] 37) rfl
  have hX := alloc_old (alloc_last w _ rfl (.cells #[.int .i64 t.kind, .int .i64 t.a, .int .i64 t.yes, .int .i64 t.no] 37)) (.cells #[.int .i64 0, .int .i64 0, .int .i64 0, .int .i64 0] 37)
  have hR := alloc_last _ _ e1 (.cells #[.int .i64 0, .int .i64 0, .int .i64 0, .int .i64 0] 37)
  have hB := bal (bnew w (.cells #[.int .i64 t.kind, .int .i64 t.a, .int .i64 t.yes, .int .i64 t.no] 37)) (.cells #[.int .i64 0, .int .i64 0, .int .i64 0, .int .i64 0] 37)
  go_enter Try.func21, Try.ntmps21
  go_upto_region 1 with (fail)
  generalize (w.alloc (.cells #[.int .i64 t.kind, .int .i64 t.a, .int .i64 t.yes, .int .i64 t.no] 37)).alloc (.cells #[.int .i64 0, .int .i64 0, .int .i64 0, .int .i64 0] 37) = w1 at *
  have HX := Lib.hid hX
  have HR := Lib.hid hR
  have HB := Lib.hid hB
  clear hX hR hB e1
  have c0 := (cell_of_blk HX.out 0).1
  have c1 := (cell_of_blk HX.out 1).1
  have c2 := (cell_of_blk HX.out 2).1
  have c3 := (cell_of_blk HX.out 3).1
  obtain ⟨r0, s0⟩ := cell_of_blk HR.out 0
  obtain ⟨r1, s1⟩ := cell_of_blk HR.out 1
  obtain ⟨r2, s2⟩ := cell_of_blk HR.out 2
  obtain ⟨r3, s3⟩ := cell_of_blk HR.out 3
  go_wp2_with fail
  clear c0 c1 c2 c3
  have hr7 := (blk_set (blk_set (blk_set (blk_set HR.out 0 (.int .i64 t.kind)) 1 (.int .i64 t.a)) 2 (.int .i64 t.yes)) 3 (.int .i64 t.no))
  have hB7 := ((((HB.out.setCell (p := ⟨w.heap.size + 1, 0, none⟩) (by show w.heap.size ≤ w.heap.size + 1; omega) (.int .i64 t.kind)).setCell (p := ⟨w.heap.size + 1, 1, none⟩) (by show w.heap.size ≤ w.heap.size + 1; omega) (.int .i64 t.a)).setCell (p := ⟨w.heap.size + 1, 2, none⟩) (by show w.heap.size ≤ w.heap.size + 1; omega) (.int .i64 t.yes)).setCell (p := ⟨w.heap.size + 1, 3, none⟩) (by show w.heap.size ≤ w.heap.size + 1; omega) (.int .i64 t.no))
  generalize (((w1.setCell ⟨w.heap.size + 1, 0, none⟩ (.int .i64 t.kind)).setCell ⟨w.heap.size + 1, 1, none⟩ (.int .i64 t.a)).setCell ⟨w.heap.size + 1, 2, none⟩ (.int .i64 t.yes)).setCell ⟨w.heap.size + 1, 3, none⟩ (.int .i64 t.no) = w7 at *
  have k0 : w7.cell? ⟨w.heap.size + 1, 0, none⟩ = some (.int .i64 t.kind) := (cell_of_blk hr7 0).1
  have k1 : w7.cell? ⟨w.heap.size + 1, 1, none⟩ = some (.int .i64 t.a) := (cell_of_blk hr7 1).1
  have k2 : w7.cell? ⟨w.heap.size + 1, 2, none⟩ = some (.int .i64 t.yes) := (cell_of_blk hr7 2).1
  have k3 : w7.cell? ⟨w.heap.size + 1, 3, none⟩ = some (.int .i64 t.no) := (cell_of_blk hr7 3).1
  clear hr7 r0 r1 r2 r3 s0 s1 s2 s3
  refine bodyPost_ret (v := .agg #[.int .i64 t.kind, .int .i64 t.a, .int .i64 t.yes, .int .i64 t.no]) (by simp [results, Try.results21, go_sem, k0, k1, k2, k3]; try rfl) rfl ?_
  exact ⟨rfl, hB7⟩
set_option maxRecDepth 100000 in
set_option maxHeartbeats 4000000 in
theorem ref19_Term (l : List Opn) (f : Int → Option Int) (hl : FtOf l f) (A : Option Addr) (c : Nat) (t : Trm) (hn : l.length ≤ 2000000) (w : World) (h : SlRep opEnc w w.heap.size (.slice A l.length c) l) :
    Calls Try.prog 21 #[.slice A l.length c, trmVal t] w (FtTrm (fdTrm f t) w) := by
  by_cases hk : t.kind = 2
  · have HK := Lib.hid (fun W h => ref19_known l A c t.a hn W h)
    rw [hl t.a] at HK
    have HK2 := Lib.hid hk
    have q : (t.kind != 2) = false := by rw [hk]; rfl
    generalize hPO : FtTrm (fdTrm f t) w = PO
    have HPO := Lib.hid hPO
    unfold trmVal
    clear hPO hl hk
    have e1 := alloc_size w (.cells #[.int .i64 t.kind, .int .i64 t.a, .int .i64 t.yes, .int .i64 t.no] 37) rfl
    have hX := alloc_old (alloc_last w _ rfl (.cells #[.int .i64 t.kind, .int .i64 t.a, .int .i64 t.yes, .int .i64 t.no] 37)) (.cells #[.int .i64 0, .int .i64 0, .int .i64 0, .int .i64 0] 37)
    have hR := alloc_last _ _ e1 (.cells #[.int .i64 0, .int .i64 0, .int .i64 0, .int .i64 0] 37)
    have hB := bal (bnew w (.cells #[.int .i64 t.kind, .int .i64 t.a, .int .i64 t.yes, .int .i64 t.no] 37)) (.cells #[.int .i64 0, .int .i64 0, .int .i64 0, .int .i64 0] 37)
    have HL := Lib.hid (h.next hB)
    clear h
    go_enter Try.func21, Try.ntmps21
    go_upto_region 1 with (fail)
    generalize (w.alloc (.cells #[.int .i64 t.kind, .int .i64 t.a, .int .i64 t.yes, .int .i64 t.no] 37)).alloc (.cells #[.int .i64 0, .int .i64 0, .int .i64 0, .int .i64 0] 37) = w1 at *
    have HX := Lib.hid hX
    have HR := Lib.hid hR
    have HB := Lib.hid hB
    clear hX hR hB e1
    have c0 := (cell_of_blk HX.out 0).1
    have c1 := (cell_of_blk HX.out 1).1
    have c2 := (cell_of_blk HX.out 2).1
    have c3 := (cell_of_blk HX.out 3).1
    go_wp2_with fail
    refine (HK.out _ HL.out).mono ?_
    rintro e w2 ⟨⟨n, rfl, hv⟩, hb⟩
    clear c0 c1 c2 c3
    have hX' := (hb.block _ (lt_of_blk HX.out)).trans HX.out
    have hR' := (hb.block _ (lt_of_blk HR.out)).trans HR.out
    have hB' := bch HB.out hb
    have hL' := HL.out.next hb
    have HX := Lib.hid hX'
    have HR := Lib.hid hR'
    have HB := Lib.hid hB'
    have HL := Lib.hid hL'
    clear hX' hR' hB' hL' hb
    have c0 := (cell_of_blk HX.out 0).1
    have c1 := (cell_of_blk HX.out 1).1
    have c2 := (cell_of_blk HX.out 2).1
    have c3 := (cell_of_blk HX.out 3).1
    obtain ⟨r0, s0⟩ := cell_of_blk HR.out 0
    obtain ⟨r1, s1⟩ := cell_of_blk HR.out 1
    obtain ⟨r2, s2⟩ := cell_of_blk HR.out 2
    obtain ⟨r3, s3⟩ := cell_of_blk HR.out 3
    cases hf : f t.a with
    | none =>
      simp only [Option.isSome_none]
      have HFT := Lib.hid hf
      clear hv hf
      go_wp2_with fail
      clear c0 c1 c2 c3
      have hr7 := (blk_set (blk_set (blk_set (blk_set HR.out 0 (.int .i64 t.kind)) 1 (.int .i64 t.a)) 2 (.int .i64 t.yes)) 3 (.int .i64 t.no))
      have hB7 := ((((HB.out.setCell (p := ⟨w.heap.size + 1, 0, none⟩) (by show w.heap.size ≤ w.heap.size + 1; omega) (.int .i64 t.kind)).setCell (p := ⟨w.heap.size + 1, 1, none⟩) (by show w.heap.size ≤ w.heap.size + 1; omega) (.int .i64 t.a)).setCell (p := ⟨w.heap.size + 1, 2, none⟩) (by show w.heap.size ≤ w.heap.size + 1; omega) (.int .i64 t.yes)).setCell (p := ⟨w.heap.size + 1, 3, none⟩) (by show w.heap.size ≤ w.heap.size + 1; omega) (.int .i64 t.no))
      generalize (((w2.setCell ⟨w.heap.size + 1, 0, none⟩ (.int .i64 t.kind)).setCell ⟨w.heap.size + 1, 1, none⟩ (.int .i64 t.a)).setCell ⟨w.heap.size + 1, 2, none⟩ (.int .i64 t.yes)).setCell ⟨w.heap.size + 1, 3, none⟩ (.int .i64 t.no) = w7 at *
      have k0 : w7.cell? ⟨w.heap.size + 1, 0, none⟩ = some (.int .i64 t.kind) := (cell_of_blk hr7 0).1
      have k1 : w7.cell? ⟨w.heap.size + 1, 1, none⟩ = some (.int .i64 t.a) := (cell_of_blk hr7 1).1
      have k2 : w7.cell? ⟨w.heap.size + 1, 2, none⟩ = some (.int .i64 t.yes) := (cell_of_blk hr7 2).1
      have k3 : w7.cell? ⟨w.heap.size + 1, 3, none⟩ = some (.int .i64 t.no) := (cell_of_blk hr7 3).1
      clear hr7 r0 r1 r2 r3 s0 s1 s2 s3
      refine bodyPost_ret (v := .agg #[.int .i64 t.kind, .int .i64 t.a, .int .i64 t.yes, .int .i64 t.no]) (by simp [results, Try.results21, go_sem, k0, k1, k2, k3]; try rfl) rfl ?_
      rw [← HPO.out]; exact ⟨by unfold fdTrm; rw [if_pos HK2.out, HFT.out]; rfl, hB7⟩
    | some x =>
      obtain rfl := hv x hf
      simp only [Option.isSome_some]
      have HFT := Lib.hid hf
      clear hv hf
      by_cases h1 : n = 4294967295
      · subst h1
        go_wp2_with fail
        clear c0 c1 c2 c3
        have hr7 := (blk_set (blk_set (blk_set (blk_set HR.out 0 (.int .i64 1)) 1 (.int .i64 0)) 2 (.int .i64 t.yes)) 3 (.int .i64 0))
        have hB7 := ((((HB.out.setCell (p := ⟨w.heap.size + 1, 0, none⟩) (by show w.heap.size ≤ w.heap.size + 1; omega) (.int .i64 1)).setCell (p := ⟨w.heap.size + 1, 1, none⟩) (by show w.heap.size ≤ w.heap.size + 1; omega) (.int .i64 0)).setCell (p := ⟨w.heap.size + 1, 2, none⟩) (by show w.heap.size ≤ w.heap.size + 1; omega) (.int .i64 t.yes)).setCell (p := ⟨w.heap.size + 1, 3, none⟩) (by show w.heap.size ≤ w.heap.size + 1; omega) (.int .i64 0))
        generalize (((w2.setCell ⟨w.heap.size + 1, 0, none⟩ (.int .i64 1)).setCell ⟨w.heap.size + 1, 1, none⟩ (.int .i64 0)).setCell ⟨w.heap.size + 1, 2, none⟩ (.int .i64 t.yes)).setCell ⟨w.heap.size + 1, 3, none⟩ (.int .i64 0) = w7 at *
        have k0 : w7.cell? ⟨w.heap.size + 1, 0, none⟩ = some (.int .i64 1) := (cell_of_blk hr7 0).1
        have k1 : w7.cell? ⟨w.heap.size + 1, 1, none⟩ = some (.int .i64 0) := (cell_of_blk hr7 1).1
        have k2 : w7.cell? ⟨w.heap.size + 1, 2, none⟩ = some (.int .i64 t.yes) := (cell_of_blk hr7 2).1
        have k3 : w7.cell? ⟨w.heap.size + 1, 3, none⟩ = some (.int .i64 0) := (cell_of_blk hr7 3).1
        clear hr7 r0 r1 r2 r3 s0 s1 s2 s3
        refine bodyPost_ret (v := .agg #[.int .i64 1, .int .i64 0, .int .i64 t.yes, .int .i64 0]) (by simp [results, Try.results21, go_sem, k0, k1, k2, k3]; try rfl) rfl ?_
        rw [← HPO.out]; exact ⟨by unfold fdTrm; rw [if_pos HK2.out, HFT.out]; rfl, hB7⟩
      · have H1 := Lib.hid h1
        have q1 : (n == 4294967295) = false := by rw [beq_eq_false_iff_ne]; exact h1
        by_cases h2 : n = 0
        · subst h2
          clear h1 q1
          go_wp2_with fail
          clear c0 c1 c2 c3
          have hr7 := (blk_set (blk_set (blk_set (blk_set HR.out 0 (.int .i64 1)) 1 (.int .i64 0)) 2 (.int .i64 t.no)) 3 (.int .i64 0))
          have hB7 := ((((HB.out.setCell (p := ⟨w.heap.size + 1, 0, none⟩) (by show w.heap.size ≤ w.heap.size + 1; omega) (.int .i64 1)).setCell (p := ⟨w.heap.size + 1, 1, none⟩) (by show w.heap.size ≤ w.heap.size + 1; omega) (.int .i64 0)).setCell (p := ⟨w.heap.size + 1, 2, none⟩) (by show w.heap.size ≤ w.heap.size + 1; omega) (.int .i64 t.no)).setCell (p := ⟨w.heap.size + 1, 3, none⟩) (by show w.heap.size ≤ w.heap.size + 1; omega) (.int .i64 0))
          generalize (((w2.setCell ⟨w.heap.size + 1, 0, none⟩ (.int .i64 1)).setCell ⟨w.heap.size + 1, 1, none⟩ (.int .i64 0)).setCell ⟨w.heap.size + 1, 2, none⟩ (.int .i64 t.no)).setCell ⟨w.heap.size + 1, 3, none⟩ (.int .i64 0) = w7 at *
          have k0 : w7.cell? ⟨w.heap.size + 1, 0, none⟩ = some (.int .i64 1) := (cell_of_blk hr7 0).1
          have k1 : w7.cell? ⟨w.heap.size + 1, 1, none⟩ = some (.int .i64 0) := (cell_of_blk hr7 1).1
          have k2 : w7.cell? ⟨w.heap.size + 1, 2, none⟩ = some (.int .i64 t.no) := (cell_of_blk hr7 2).1
          have k3 : w7.cell? ⟨w.heap.size + 1, 3, none⟩ = some (.int .i64 0) := (cell_of_blk hr7 3).1
          clear hr7 r0 r1 r2 r3 s0 s1 s2 s3
          refine bodyPost_ret (v := .agg #[.int .i64 1, .int .i64 0, .int .i64 t.no, .int .i64 0]) (by simp [results, Try.results21, go_sem, k0, k1, k2, k3]; try rfl) rfl ?_
          rw [← HPO.out]; exact ⟨by unfold fdTrm; rw [if_pos HK2.out, HFT.out]; rfl, hB7⟩
        · have H2 := Lib.hid h2
          have q2 : (n == 0) = false := by rw [beq_eq_false_iff_ne]; exact h2
          clear h1 h2
          go_wp2_with fail
          clear c0 c1 c2 c3
          have hr7 := (blk_set (blk_set (blk_set (blk_set HR.out 0 (.int .i64 1)) 1 (.int .i64 0)) 2 (.int .i64 (-1))) 3 (.int .i64 0))
          have hB7 := ((((HB.out.setCell (p := ⟨w.heap.size + 1, 0, none⟩) (by show w.heap.size ≤ w.heap.size + 1; omega) (.int .i64 1)).setCell (p := ⟨w.heap.size + 1, 1, none⟩) (by show w.heap.size ≤ w.heap.size + 1; omega) (.int .i64 0)).setCell (p := ⟨w.heap.size + 1, 2, none⟩) (by show w.heap.size ≤ w.heap.size + 1; omega) (.int .i64 (-1))).setCell (p := ⟨w.heap.size + 1, 3, none⟩) (by show w.heap.size ≤ w.heap.size + 1; omega) (.int .i64 0))
          generalize (((w2.setCell ⟨w.heap.size + 1, 0, none⟩ (.int .i64 1)).setCell ⟨w.heap.size + 1, 1, none⟩ (.int .i64 0)).setCell ⟨w.heap.size + 1, 2, none⟩ (.int .i64 (-1))).setCell ⟨w.heap.size + 1, 3, none⟩ (.int .i64 0) = w7 at *
          have k0 : w7.cell? ⟨w.heap.size + 1, 0, none⟩ = some (.int .i64 1) := (cell_of_blk hr7 0).1
          have k1 : w7.cell? ⟨w.heap.size + 1, 1, none⟩ = some (.int .i64 0) := (cell_of_blk hr7 1).1
          have k2 : w7.cell? ⟨w.heap.size + 1, 2, none⟩ = some (.int .i64 (-1)) := (cell_of_blk hr7 2).1
          have k3 : w7.cell? ⟨w.heap.size + 1, 3, none⟩ = some (.int .i64 0) := (cell_of_blk hr7 3).1
          clear hr7 r0 r1 r2 r3 s0 s1 s2 s3
          refine bodyPost_ret (v := .agg #[.int .i64 1, .int .i64 0, .int .i64 (-1), .int .i64 0]) (by simp [results, Try.results21, go_sem, k0, k1, k2, k3]; try rfl) rfl ?_
          rw [← HPO.out]; exact ⟨by unfold fdTrm; rw [if_pos HK2.out, HFT.out]; simp only [if_neg H1.out, if_neg H2.out]; rfl, hB7⟩
  · exact ref19_Term_no l A c f t hk w
end Go.Proofs.Ytfadeipdepamlaa
