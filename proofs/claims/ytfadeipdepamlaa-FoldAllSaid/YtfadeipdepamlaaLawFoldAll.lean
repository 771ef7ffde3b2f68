/- The Go function FoldAll returns true on every input and leaves its arguments as they were. No condition. -/
import Derived.Test.YtfadeipdepamlaaRows
import Derived.WalkKit
import Derived.ProofKit
import Derived.OpenShut
import Derived.Test.YtfadeipdepamlaaLawKit
import Derived.SizedLaws
import Derived.Test.YtfadeipdepamlaaSeG2e14
import Derived.Test.YtfadeipdepamlaaSeFoldH
import Derived.Test.YtfadeipdepamlaaSeG8e15
import Derived.Test.YtfadeipdepamlaaSeG0e2
namespace Go.Proofs.Ytfadeipdepamlaa.foldAll
open Go.ChangeShapes Go.WideShapes Go.ChangeAt Go.RowKit
set_option linter.unusedVariables false

def msk (y : Int) : Int := IntKind.i64.wrap ((BitVec.ofInt 64 y &&& BitVec.ofInt 64 4294967295).toNat : Int)
theorem msk_r (y : Int) : IntR (msk y) := by
  unfold msk IntR IntKind.wrap
  simp [IntKind.bits, IntKind.signed]
  omega
def wv (a b c d : Int) (t : Nat) : Int := [a, b, c, d].getD t 0
theorem wv_at (a b c d : Int) (t : Nat) (ht : t < 4) : (#[.int .i64 a, .int .i64 b, .int .i64 c, .int .i64 d] : Array Value)[t]? = some (.int .i64 (wv a b c d t)) := by
  match t, ht with
  | 0, _ => rfl
  | 1, _ => rfl
  | 2, _ => rfl
  | 3, _ => rfl
theorem wv_r {a b c d : Int} (ha : IntR a) (hb : IntR b) (hc : IntR c) (hd : IntR d) (t : Nat) (ht : t < 4) : IntR (wv a b c d t) := by
  match t, ht with
  | 0, _ => exact ha
  | 1, _ => exact hb
  | 2, _ => exact hc
  | 3, _ => exact hd
theorem fa_ir_eq (x : Nat → Int) (ops : List Opn) (n : Int) : fdIr (faIr x ops n) = ⟨4, [], [⟨(fdList (faPre x 4 ++ ops)).2, fdTrm (fdList (faPre x 4 ++ ops)).1 ⟨2, n, -1, 0⟩⟩], 0, 0⟩ := rfl
set_option maxHeartbeats 8000000 in
theorem walk (v0 : Value) (ops : List Opn) (hf : ∀ o ∈ ops, o.fine) (a b c d n : Int) (ha : IntR a) (hb : IntR b) (hc : IntR c) (hd : IntR d) (hn : IntR n) (w : World) (ho : SlRep opEnc w w.heap.size v0 ops) :
    Calls Try.prog 5 #[v0, .agg #[.int .i64 a, .int .i64 b, .int .i64 c, .int .i64 d], .int .i64 n] w fun e w' => e = .returned (.bool true) ∧ Below w.heap.size w w' := by
  obtain ⟨OA, oc, rfl, hoc⟩ := ho.form
  have HO := Lib.hid ho
  have HLV := Lib.hid (fun W => law19_lives W)
  have HB0 := Lib.hid (bnew w (.cells #[.int .i64 a, .int .i64 b, .int .i64 c, .int .i64 d] 35))
  by_cases hg : 200 < (ops.length : Int) ∨ n < 0 ∨ 3 < n
  · clear ho hf ha hb hc hd hn
    by_cases g1 : 200 < (ops.length : Int)
    · clear hg
      go_enter Try.func5, Try.ntmps5
      go_wp2_with fail
      refine (HLV.out _).mono ?_
      rintro e w2 ⟨rfl, hb2⟩
      go_wp2_with fail
      go_ret
      exact ⟨rfl, bch HB0.out hb2⟩
    · by_cases g2 : n < 0
      · clear hg
        go_enter Try.func5, Try.ntmps5
        go_wp2_with fail
        refine (HLV.out _).mono ?_
        rintro e w2 ⟨rfl, hb2⟩
        go_wp2_with fail
        go_ret
        exact ⟨rfl, bch HB0.out hb2⟩
      · have g3 : 3 < n := by omega
        clear hg
        go_enter Try.func5, Try.ntmps5
        go_wp2_with fail
        refine (HLV.out _).mono ?_
        rintro e w2 ⟨rfl, hb2⟩
        go_wp2_with fail
        go_ret
        exact ⟨rfl, bch HB0.out hb2⟩
  · have g1 : (ops.length : Int) ≤ 200 := by omega
    have g2 : 0 ≤ n := by omega
    have g3 : n ≤ 3 := by omega
    have hx : IntR n := hn
    have hfi := fa_fine (x := fun t => msk (wv a b c d t)) (fun t ht => msk_r _) (by omega) hf hn
    have HFI := Lib.hid hfi
    have HFD := Lib.hid (fun he av bv W h => fold_Fold (faIr (fun t => msk (wv a b c d t)) ops n) av bv hfi he W h)
    have HFB := Lib.hid (fun he av bv W h => fold_Fold_bad (faIr (fun t => msk (wv a b c d t)) ops n) av bv hfi he W h)
    have HCK := Lib.hid (fun av bv W h => ir_Check (faIr (fun t => msk (wv a b c d t)) ops n) av bv hfi W h)
    have hF1 : FaAt w w.heap.size (((w.alloc (.cells #[.int .i64 a, .int .i64 b, .int .i64 c, .int .i64 d] 35)).alloc (.cells zBlk 39)).alloc (.cells #[.int .i64 4, .slice none 0 0, .slice (some ⟨w.heap.size + 1, 0, none⟩) 1 1, .int .i64 0, .int .i64 0] 25)) #[.int .i64 a, .int .i64 b, .int .i64 c, .int .i64 d] (.slice none 0 0) [] := by
      have e1 := alloc_size w (.cells #[.int .i64 a, .int .i64 b, .int .i64 c, .int .i64 d] 35) rfl
      have e2 := alloc_size (w.alloc (.cells #[.int .i64 a, .int .i64 b, .int .i64 c, .int .i64 d] 35)) (.cells zBlk 39) e1
      have e3 := alloc_size ((w.alloc (.cells #[.int .i64 a, .int .i64 b, .int .i64 c, .int .i64 d] 35)).alloc (.cells zBlk 39)) (.cells #[.int .i64 4, .slice none 0 0, .slice (some ⟨w.heap.size + 1, 0, none⟩) 1 1, .int .i64 0, .int .i64 0] 25) e2
      exact ⟨alloc_old (alloc_old (alloc_last w _ rfl _) _) _, alloc_old (alloc_last _ _ e1 _) _, alloc_last _ _ e2 _, World.ownsRow_nil _ _ _ _, bal (bal (bnew w _) _) _, by rw [e3]; omega⟩
    have HF1 := Lib.hid hF1
    unfold zBlk at HF1
    clear hF1 hfi ho hg hf ha hb hc hd hn hx
    go_enter Try.func5, Try.ntmps5
    go_upto_region 4 with (fail)
    generalize ((w.alloc (.cells #[.int .i64 a, .int .i64 b, .int .i64 c, .int .i64 d] 35)).alloc (.cells #[.slice none 0 0, .int .i64 0, .int .i64 0, .int .i64 0, .int .i64 0] 39)).alloc (.cells #[.int .i64 4, .slice none 0 0, .slice (some ⟨w.heap.size + 1, 0, none⟩) 1 1, .int .i64 0, .int .i64 0] 25) = w1 at *
    go_wp2_with fail
    go_loopw [8] (fun vt wr => ∃ (t : Nat) (ov : Value), t ≤ 4 ∧ vt = .int .i64 t ∧ FaAt w w.heap.size wr #[.int .i64 a, .int .i64 b, .int .i64 c, .int .i64 d] ov (faPre (fun t => msk (wv a b c d t)) t)) (fun vt _ => 4 - (intOf vt).toNat)
    case atStart => exact ⟨0, _, by omega, rfl, HF1.out⟩
    case round =>
      obtain ⟨t, ov, ht, rfl, hF⟩ := hrel
      obtain ⟨RA, rc, rfl⟩ := ownN_len hF.row
      rw [faPre_len] at hF
      have HF := Lib.hid hF
      clear hF
      by_cases hlt : t < 4
      · have t0 : (0 : Int) ≤ (t : Int) := by omega
        have t1 : (t : Int) < 4 := by omega
        have HFd := Lib.hid (HF.out.below (bdr (Below.refl wr.heap.size wr)))
        have HSC := Lib.hid (faPre_succ (fun t => msk (wv a b c d t)) t)
        have q0 := (cell_of_blk HFd.out.bW t).1
        rw [wv_at a b c d t hlt] at q0
        have hpl := faPre_len (fun t => msk (wv a b c d t)) t
        have HPU := Lib.hid (HFd.out.push (faConst (fun t => msk (wv a b c d t)) t) (by rw [hpl]; omega))
        have HWV := Lib.hid (wv_at a b c d t hlt)
        rw [hpl] at HPU
        unfold faConst at HPU HSC
        simp only at HPU HSC
        generalize faPre (fun t => msk (wv a b c d t)) t = pl at *
        generalize wv a b c d t = y at *
        clear hpl
        have q1 := (cell_of_blk HFd.out.bO 0).1
        have q2 := (cell_of_blk HFd.out.bI 2).1
        obtain ⟨VA, vc, w3, hrun, pW, p1, p2, p3, hF3⟩ := HPU.out
        have p0 := (cell_of_blk pW t).1
        rw [HWV.out] at p0
        have HRUN := Lib.hid hrun
        have HF3 := Lib.hid hF3
        clear hrun hF3 HPU
        go_wp2_with fail
        have hS0 : wr.drew.cell? ⟨w.heap.size + 1 + 1, 2, none⟩ = some (.slice (some ⟨w.heap.size + 1, 0, none⟩) 1 1) ∧ wr.drew.cell? ⟨w.heap.size + 1, 0, none⟩ = some (.slice RA t rc) ∧ wr.drew.cell? ⟨w.heap.size, t, none⟩ = some (.int .i64 y) := ⟨q2, q1, q0⟩
        have hbz := bnew wr.drew (.cells #[.int .i64 1, .int .i64 t, .int .i64 0, .int .i64 0, .int .i64 0, .int .i64 (msk y)] 41)
        have hS1 : (wr.drew.alloc (.cells #[.int .i64 1, .int .i64 t, .int .i64 0, .int .i64 0, .int .i64 0, .int .i64 (msk y)] 41)).cell? ⟨w.heap.size + 1 + 1, 2, none⟩ = some (.slice (some ⟨w.heap.size + 1, 0, none⟩) 1 1) ∧ (wr.drew.alloc (.cells #[.int .i64 1, .int .i64 t, .int .i64 0, .int .i64 0, .int .i64 0, .int .i64 (msk y)] 41)).cell? ⟨w.heap.size + 1, 0, none⟩ = some (.slice RA t rc) ∧ (wr.drew.alloc (.cells #[.int .i64 1, .int .i64 t, .int .i64 0, .int .i64 0, .int .i64 0, .int .i64 (msk y)] 41)).cell? ⟨w.heap.size, t, none⟩ = some (.int .i64 y) := ⟨(hbz.cell (lt_of_blk HFd.out.bI)).trans q2, (hbz.cell (lt_of_blk HFd.out.bO)).trans q1, (hbz.cell (lt_of_blk HFd.out.bW)).trans q0⟩
        have hS2 : w3.cell? ⟨w.heap.size + 1 + 1, 2, none⟩ = some (.slice (some ⟨w.heap.size + 1, 0, none⟩) 1 1) ∧ w3.cell? ⟨w.heap.size + 1, 0, none⟩ = some (.slice RA t rc) ∧ w3.cell? ⟨w.heap.size, t, none⟩ = some (.int .i64 y) := ⟨p3, p1, p0⟩
        clear q0 q1 q2 hbz
        refine wp_region_L (fun w' => w'.cell? ⟨w.heap.size + 1 + 1, 2, none⟩ = some (.slice (some ⟨w.heap.size + 1, 0, none⟩) 1 1) ∧ w'.cell? ⟨w.heap.size + 1, 0, none⟩ = some (.slice RA t rc) ∧ w'.cell? ⟨w.heap.size, t, none⟩ = some (.int .i64 y)) 17 (by kernel_rfl) ?_
        refine wpAnyL_take (i := 0) (some 31) (.pointer (some ⟨w.heap.size + 1 + 1, 2, none⟩)) rfl rfl (by kernel_rfl) (by kernel_rfl) (by kernel_rfl) (by kernel_rfl) (fun _ _ _ h => h) (by rfl) ?hva0 hS0 ?resta0
        case hva0 =>
          intro wz hSz
          obtain ⟨z0, z1, z2⟩ := hSz
          go_simp
        try simp only [Act.put, List.setIfInBounds_toArray, List.set_cons_zero, List.set_cons_succ]
        refine wpAnyL_take (i := 1) (some 32) (.slice (some ⟨w.heap.size + 1, 0, none⟩) 1 1) rfl rfl (by kernel_rfl) (by kernel_rfl) (by kernel_rfl) (by kernel_rfl) (fun _ _ _ h => h) (by rfl) ?hva1 hS0 ?resta1
        case hva1 =>
          intro wz hSz
          obtain ⟨z0, z1, z2⟩ := hSz
          go_simp
        try simp only [Act.put, List.setIfInBounds_toArray, List.set_cons_zero, List.set_cons_succ]
        refine wpAnyL_take (i := 2) (some 33) (.pointer (some ⟨w.heap.size + 1 + 1, 2, none⟩)) rfl rfl (by kernel_rfl) (by kernel_rfl) (by kernel_rfl) (by kernel_rfl) (fun _ _ _ h => h) (by rfl) ?hva2 hS0 ?resta2
        case hva2 =>
          intro wz hSz
          obtain ⟨z0, z1, z2⟩ := hSz
          go_simp
        try simp only [Act.put, List.setIfInBounds_toArray, List.set_cons_zero, List.set_cons_succ]
        refine wpAnyL_take (i := 3) (some 34) (.slice (some ⟨w.heap.size + 1, 0, none⟩) 1 1) rfl rfl (by kernel_rfl) (by kernel_rfl) (by kernel_rfl) (by kernel_rfl) (fun _ _ _ h => h) (by rfl) ?hva3 hS0 ?resta3
        case hva3 =>
          intro wz hSz
          obtain ⟨z0, z1, z2⟩ := hSz
          go_simp
        try simp only [Act.put, List.setIfInBounds_toArray, List.set_cons_zero, List.set_cons_succ]
        refine wpAnyL_take (i := 4) (some 35) (.pointer (some ⟨w.heap.size + 1, 0, none⟩)) rfl rfl (by kernel_rfl) (by kernel_rfl) (by kernel_rfl) (by kernel_rfl) (fun _ _ _ h => h) (by rfl) ?hva4 hS0 ?resta4
        case hva4 =>
          intro wz hSz
          obtain ⟨z0, z1, z2⟩ := hSz
          go_simp
        try simp only [Act.put, List.setIfInBounds_toArray, List.set_cons_zero, List.set_cons_succ]
        refine wpAnyL_take (i := 5) (some 36) (.pointer (some ⟨w.heap.size + 1, 0, none⟩)) rfl rfl (by kernel_rfl) (by kernel_rfl) (by kernel_rfl) (by kernel_rfl) (fun _ _ _ h => h) (by rfl) ?hva5 hS0 ?resta5
        case hva5 =>
          intro wz hSz
          obtain ⟨z0, z1, z2⟩ := hSz
          go_simp
        try simp only [Act.put, List.setIfInBounds_toArray, List.set_cons_zero, List.set_cons_succ]
        refine wpAnyL_take (i := 6) (some 37) (.slice RA t rc) rfl rfl (by kernel_rfl) (by kernel_rfl) (by kernel_rfl) (by kernel_rfl) (fun _ _ _ h => h) (by rfl) ?hva6 hS0 ?resta6
        case hva6 =>
          intro wz hSz
          obtain ⟨z0, z1, z2⟩ := hSz
          go_simp
        try simp only [Act.put, List.setIfInBounds_toArray, List.set_cons_zero, List.set_cons_succ]
        refine wpAnyL_take (i := 7) (some 38) (.int .i64 (t : Int)) rfl rfl (by kernel_rfl) (by kernel_rfl) (by kernel_rfl) (by kernel_rfl) (fun _ _ _ h => h) (by rfl) ?hva7 hS0 ?resta7
        case hva7 =>
          intro wz hSz
          obtain ⟨z0, z1, z2⟩ := hSz
          go_simp
        try simp only [Act.put, List.setIfInBounds_toArray, List.set_cons_zero, List.set_cons_succ]
        refine wpAnyL_take (i := 8) (some 39) (.int .i64 (t : Int)) rfl rfl (by kernel_rfl) (by kernel_rfl) (by kernel_rfl) (by kernel_rfl) (fun _ _ _ h => h) (by rfl) ?hva8 hS0 ?resta8
        case hva8 =>
          intro wz hSz
          obtain ⟨z0, z1, z2⟩ := hSz
          go_simp
        try simp only [Act.put, List.setIfInBounds_toArray, List.set_cons_zero, List.set_cons_succ]
        refine wpAnyL_take (i := 9) (some 40) (.pointer (some ⟨w.heap.size, t, none⟩)) rfl rfl (by kernel_rfl) (by kernel_rfl) (by kernel_rfl) (by kernel_rfl) (fun _ _ _ h => h) (by rfl) ?hva9 hS0 ?resta9
        case hva9 =>
          intro wz hSz
          obtain ⟨z0, z1, z2⟩ := hSz
          go_simp
        try simp only [Act.put, List.setIfInBounds_toArray, List.set_cons_zero, List.set_cons_succ]
        refine wpAnyL_take (i := 10) (some 41) (.int .i64 y) rfl rfl (by kernel_rfl) (by kernel_rfl) (by kernel_rfl) (by kernel_rfl) (fun _ _ _ h => h) (by rfl) ?hva10 hS0 ?resta10
        case hva10 =>
          intro wz hSz
          obtain ⟨z0, z1, z2⟩ := hSz
          go_simp
        try simp only [Act.put, List.setIfInBounds_toArray, List.set_cons_zero, List.set_cons_succ]
        refine wpAnyL_take (i := 11) (some 42) (.int .i64 (msk y)) rfl rfl (by kernel_rfl) (by kernel_rfl) (by kernel_rfl) (by kernel_rfl) (fun _ _ _ h => h) (by rfl) ?hva11 hS0 ?resta11
        case hva11 =>
          intro wz hSz
          obtain ⟨z0, z1, z2⟩ := hSz
          first | rfl | (unfold msk; go_simp)
        try simp only [Act.put, List.setIfInBounds_toArray, List.set_cons_zero, List.set_cons_succ]
        refine wpAnyL_take (i := 12) (some 43) (.agg #[.int .i64 1, .int .i64 t, .int .i64 0, .int .i64 0, .int .i64 0, .int .i64 (msk y)]) rfl rfl (by kernel_rfl) (by kernel_rfl) (by kernel_rfl) (by kernel_rfl) (fun _ _ _ h => h) (by rfl) ?hva12 hS0 ?resta12
        case hva12 =>
          intro wz hSz
          obtain ⟨z0, z1, z2⟩ := hSz
          go_simp
        try simp only [Act.put, List.setIfInBounds_toArray, List.set_cons_zero, List.set_cons_succ]
        refine wpAnyL_one (i := 13) (by kernel_rfl) rfl ?_
        intro K hK
        rw [if_pos (by rfl)]
        go_simp
        refine hK.out _ _ (fun _ => hS1) ?_
        clear hK
        try simp only [Act.put, List.setIfInBounds_toArray, List.set_cons_zero, List.set_cons_succ]
        refine wpAnyL_one (i := 14) (by kernel_rfl) rfl ?_
        intro K hK
        refine step_app rfl (.tmp 37) (.tmp 44) 34 (by rfl) HRUN.out (by rfl) (by rfl) ?_
        refine hK.out _ _ (fun _ => hS2) ?_
        clear hK
        try simp only [Act.put, List.setIfInBounds_toArray]
        refine wpAnyL_one (i := 15) (by kernel_rfl) rfl ?_
        intro K hK
        rw [if_pos (by rfl)]
        go_simp
        refine hK.out _ _ (fun _ => hS2) ?_
        clear hK
        try simp only [Act.put, List.setIfInBounds_toArray, List.set_cons_zero, List.set_cons_succ]
        refine wpAnyL_one (i := 16) (by kernel_rfl) rfl ?_
        intro K hK
        rw [if_pos (by rfl)]
        go_simp
        refine hK.out _ _ (fun _ => hS2) ?_
        clear hK
        try simp only [Act.put, List.setIfInBounds_toArray, List.set_cons_zero, List.set_cons_succ]
        refine wpAnyL_one (i := 17) (by kernel_rfl) rfl ?_
        intro K hK
        rw [if_pos (by rfl)]
        go_simp
        refine hK.out _ _ (fun h => absurd rfl h) ?_
        clear hK
        refine wpAnyL_done (by kernel_rfl) ?_ _
        clear hS0 hS1 hS2 p0 p1 p2 p3 pW
        go_wp2_with fail
        go_roundw
        case rel => exact ⟨t + 1, _, by omega, by go_num, by rw [HSC.out]; exact HF3.out⟩
        case measure => simp [intOf]; omega
      · obtain rfl : t = 4 := by omega
        have HFd := Lib.hid (HF.out.below (bdr (Below.refl wr.heap.size wr)))
        have hpl := faPre_len (fun t => msk (wv a b c d t)) 4
        have HO2 := Lib.hid (HO.out.below HFd.out.bel (Nat.le_refl _))
        have HPU := Lib.hid (HFd.out.pushAll OA oc _ ops HO2.out (by rw [hpl]; omega))
        have HAL := Lib.hid (fun he => fa_all (x := fun t => msk (wv a b c d t)) (ops := ops) (at_ := n) he)
        have HEQ := Lib.hid (fa_ir_eq (fun t => msk (wv a b c d t)) ops n)
        have HFL := Lib.hid (fdList_len (faPre (fun t => msk (wv a b c d t)) 4 ++ ops))
        have hll : (faPre (fun t => msk (wv a b c d t)) 4 ++ ops).length ≤ 204 := by rw [List.length_append, hpl]; omega
        have hpe : faIr (fun t => msk (wv a b c d t)) ops n = ⟨4, [], [⟨faPre (fun t => msk (wv a b c d t)) 4 ++ ops, ⟨2, n, -1, 0⟩⟩], 0, 0⟩ := rfl
        rw [HEQ.out] at HFD
        have HPE := Lib.hid hpe
        generalize faIr (fun t => msk (wv a b c d t)) ops n = P at *
        generalize faPre (fun t => msk (wv a b c d t)) 4 ++ ops = L at *
        have q1 := (cell_of_blk HFd.out.bO 0).1
        have q2 := (cell_of_blk HFd.out.bI 2).1
        obtain ⟨VA, vc, w3, hrun, p1, p2, p3, hF3⟩ := HPU.out
        have HRUN := Lib.hid hrun
        have HF3 := Lib.hid hF3
        clear hrun hF3 HPU hpl hpe
        go_wp2_with fail
        have hS0 : wr.drew.cell? ⟨w.heap.size + 1 + 1, 2, none⟩ = some (.slice (some ⟨w.heap.size + 1, 0, none⟩) 1 1) ∧ wr.drew.cell? ⟨w.heap.size + 1, 0, none⟩ = some (.slice RA 4 rc) ∧ True := ⟨q2, q1, trivial⟩
        have hS2 : w3.cell? ⟨w.heap.size + 1 + 1, 2, none⟩ = some (.slice (some ⟨w.heap.size + 1, 0, none⟩) 1 1) ∧ w3.cell? ⟨w.heap.size + 1, 0, none⟩ = some (.slice RA 4 rc) ∧ True := ⟨p3, p1, trivial⟩
        clear q1 q2
        refine wp_region_L (fun w' => w'.cell? ⟨w.heap.size + 1 + 1, 2, none⟩ = some (.slice (some ⟨w.heap.size + 1, 0, none⟩) 1 1) ∧ w'.cell? ⟨w.heap.size + 1, 0, none⟩ = some (.slice RA 4 rc) ∧ True) 11 (by kernel_rfl) ?_
        refine wpAnyL_take (i := 0) (some 48) (.pointer (some ⟨w.heap.size + 1 + 1, 2, none⟩)) rfl rfl (by kernel_rfl) (by kernel_rfl) (by kernel_rfl) (by kernel_rfl) (fun _ _ _ h => h) (by rfl) ?hvb0 hS0 ?restb0
        case hvb0 =>
          intro wz hSz
          obtain ⟨z0, z1, z2⟩ := hSz
          go_simp
        try simp only [Act.put, List.setIfInBounds_toArray, List.set_cons_zero, List.set_cons_succ]
        refine wpAnyL_take (i := 1) (some 49) (.slice (some ⟨w.heap.size + 1, 0, none⟩) 1 1) rfl rfl (by kernel_rfl) (by kernel_rfl) (by kernel_rfl) (by kernel_rfl) (fun _ _ _ h => h) (by rfl) ?hvb1 hS0 ?restb1
        case hvb1 =>
          intro wz hSz
          obtain ⟨z0, z1, z2⟩ := hSz
          go_simp
        try simp only [Act.put, List.setIfInBounds_toArray, List.set_cons_zero, List.set_cons_succ]
        refine wpAnyL_take (i := 2) (some 50) (.pointer (some ⟨w.heap.size + 1 + 1, 2, none⟩)) rfl rfl (by kernel_rfl) (by kernel_rfl) (by kernel_rfl) (by kernel_rfl) (fun _ _ _ h => h) (by rfl) ?hvb2 hS0 ?restb2
        case hvb2 =>
          intro wz hSz
          obtain ⟨z0, z1, z2⟩ := hSz
          go_simp
        try simp only [Act.put, List.setIfInBounds_toArray, List.set_cons_zero, List.set_cons_succ]
        refine wpAnyL_take (i := 3) (some 51) (.slice (some ⟨w.heap.size + 1, 0, none⟩) 1 1) rfl rfl (by kernel_rfl) (by kernel_rfl) (by kernel_rfl) (by kernel_rfl) (fun _ _ _ h => h) (by rfl) ?hvb3 hS0 ?restb3
        case hvb3 =>
          intro wz hSz
          obtain ⟨z0, z1, z2⟩ := hSz
          go_simp
        try simp only [Act.put, List.setIfInBounds_toArray, List.set_cons_zero, List.set_cons_succ]
        refine wpAnyL_take (i := 4) (some 52) (.pointer (some ⟨w.heap.size + 1, 0, none⟩)) rfl rfl (by kernel_rfl) (by kernel_rfl) (by kernel_rfl) (by kernel_rfl) (fun _ _ _ h => h) (by rfl) ?hvb4 hS0 ?restb4
        case hvb4 =>
          intro wz hSz
          obtain ⟨z0, z1, z2⟩ := hSz
          go_simp
        try simp only [Act.put, List.setIfInBounds_toArray, List.set_cons_zero, List.set_cons_succ]
        refine wpAnyL_take (i := 5) (some 53) (.pointer (some ⟨w.heap.size + 1, 0, none⟩)) rfl rfl (by kernel_rfl) (by kernel_rfl) (by kernel_rfl) (by kernel_rfl) (fun _ _ _ h => h) (by rfl) ?hvb5 hS0 ?restb5
        case hvb5 =>
          intro wz hSz
          obtain ⟨z0, z1, z2⟩ := hSz
          go_simp
        try simp only [Act.put, List.setIfInBounds_toArray, List.set_cons_zero, List.set_cons_succ]
        refine wpAnyL_take (i := 6) (some 54) (.slice RA 4 rc) rfl rfl (by kernel_rfl) (by kernel_rfl) (by kernel_rfl) (by kernel_rfl) (fun _ _ _ h => h) (by rfl) ?hvb6 hS0 ?restb6
        case hvb6 =>
          intro wz hSz
          obtain ⟨z0, z1, z2⟩ := hSz
          go_simp
        try simp only [Act.put, List.setIfInBounds_toArray, List.set_cons_zero, List.set_cons_succ]
        refine wpAnyL_take (i := 7) (some 55) (.slice OA ops.length oc) rfl rfl (by kernel_rfl) (by kernel_rfl) (by kernel_rfl) (by kernel_rfl) (fun _ _ _ h => h) (by rfl) ?hvb7 hS0 ?restb7
        case hvb7 =>
          intro wz hSz
          obtain ⟨z0, z1, z2⟩ := hSz
          go_simp
        try simp only [Act.put, List.setIfInBounds_toArray, List.set_cons_zero, List.set_cons_succ]
        refine wpAnyL_one (i := 8) (by kernel_rfl) rfl ?_
        intro K hK
        refine step_app rfl (.tmp 54) (.tmp 55) 34 (by rfl) HRUN.out (by rfl) (by rfl) ?_
        refine hK.out _ _ (fun _ => hS2) ?_
        clear hK
        try simp only [Act.put, List.setIfInBounds_toArray]
        refine wpAnyL_one (i := 9) (by kernel_rfl) rfl ?_
        intro K hK
        rw [if_pos (by rfl)]
        go_simp
        refine hK.out _ _ (fun _ => hS2) ?_
        clear hK
        try simp only [Act.put, List.setIfInBounds_toArray, List.set_cons_zero, List.set_cons_succ]
        refine wpAnyL_one (i := 10) (by kernel_rfl) rfl ?_
        intro K hK
        rw [if_pos (by rfl)]
        go_simp
        refine hK.out _ _ (fun _ => hS2) ?_
        clear hK
        try simp only [Act.put, List.setIfInBounds_toArray, List.set_cons_zero, List.set_cons_succ]
        refine wpAnyL_one (i := 11) (by kernel_rfl) rfl ?_
        intro K hK
        rw [if_pos (by rfl)]
        go_simp
        refine hK.out _ _ (fun h => absurd rfl h) ?_
        clear hK
        refine wpAnyL_done (by kernel_rfl) ?_ _
        clear hS0 hS2 p1 p2 p3
        generalize w3.setCell ⟨w.heap.size + 1, 0, none⟩ (.slice VA L.length vc) = w4 at *
        obtain ⟨w5, hw5, hX5, hB5, hI5⟩ := HF3.out.done n
        have HX5 := Lib.hid hX5
        have HB5 := Lib.hid hB5
        have HI5 := Lib.hid hI5
        have y2 := (cell_of_blk HF3.out.bI 2).1
        obtain ⟨r1, s1⟩ := cell_of_blk HF3.out.bO 1
        obtain ⟨r2, s2⟩ := cell_of_blk HF3.out.bO 2
        obtain ⟨r3, s3⟩ := cell_of_blk HF3.out.bO 3
        obtain ⟨r4, s4⟩ := cell_of_blk HF3.out.bO 4
        clear hX5 hB5 hI5
        go_upto_region 10 with (fail)
        clear hw5 y2 r1 r2 r3 r4 s1 s2 s3 s4
        obtain ⟨c0, c1, c2, c3, c4, _⟩ := ir_cells_at HX5.out
        rw [HPE.out] at HCK HFD HFB
        unfold irVal at HCK HFD HFB
        unfold PassPost at HFD HFB
        by_cases he : irErr P = 0
        · have HA := Lib.hid (HAL.out he)
          rw [HPE.out] at he
          replace HFD := Lib.hid (HFD.out he)
          have hlq := HFL.out
          clear he HAL
          generalize fdList L = S at *
          obtain ⟨f, q⟩ := S
          generalize fdTrm f ⟨2, n, -1, 0⟩ = qt at *
          obtain ⟨qk, qa, qy, qn⟩ := qt
          simp only at HFD HA hlq
          have HA1 := Lib.hid HA.out.1
          obtain rfl : qk = 1 := HA.out.2
          clear HA
          go_wp2_with fail
          refine (HFD.out _ _ _ HI5.out).mono ?_
          rintro e w6 ⟨A, ac, C, bc, rfl, hIq, hb6⟩
          simp only [List.length_nil, List.length_singleton] at hIq ⊢
          have HY7 := Lib.hid (heap_alloc_new w6 (.cells #[.int .i64 4, .slice A 0 ac, .slice C 1 bc, .int .i64 0, .int .i64 0] 25))
          have hb7 := bnew w6 (.cells #[.int .i64 4, .slice A 0 ac, .slice C 1 bc, .int .i64 0, .int .i64 0] 25)
          have HB7 := Lib.hid (bch HB5.out (bch hb6 hb7))
          have HQ7 := Lib.hid (SlRep.next hIq.2 hb7)
          clear c0 c1 c2 c3 c4 hIq hb6 hb7
          go_upto_region 11 with (fail)
          generalize w6.alloc (.cells #[.int .i64 4, .slice A 0 ac, .slice C 1 bc, .int .i64 0, .int .i64 0] 25) = w7 at *
          obtain ⟨b, off, rfl, hb0, QA, qc, hqs, hqc, x0, x1, _, _, _⟩ := blk_known (l := [⟨q, ⟨1, qa, qy, qn⟩⟩]) HQ7.out 0 ⟨q, ⟨1, qa, qy, qn⟩⟩ rfl
          simp only [Nat.zero_mul, Nat.add_zero] at x0 x1
          have HQS := Lib.hid hqs
          obtain ⟨c0, c1, c2, c3, c4, _⟩ := ir_cells_at HY7.out
          have hq2 : q.length ≤ 204 := by omega
          clear hqs hlq hqc hll
          go_wp2_with fail
          go_loop [11] (fun vi => ∃ k : Nat, k ≤ q.length ∧ vi = .int .i64 k) (fun vi => q.length - (intOf vi).toNat)
          case atStart => exact ⟨0, Nat.zero_le _, rfl⟩
          case round =>
            obtain ⟨k, hk, rfl⟩ := hrel
            by_cases hkl : k < q.length
            · obtain ⟨ob, ooff, rfl, hob, t0, _, _, _, _, _⟩ := op_at HQS.out k hkl
              rw [HA1.out _ (getD_memI q k opNone hkl)] at t0
              have k0 : (0 : Int) ≤ (k : Int) := by omega
              have k1 : (k : Int) < (q.length : Int) := by omega
              go_wp2_with fail
              go_round
              case rel => exact ⟨k + 1, by omega, by go_num⟩
              case measure => simp [intOf]; omega
            · obtain rfl : k = q.length := by omega
              go_wp2_with fail
              refine (HLV.out _).mono ?_
              rintro e w8 ⟨rfl, hb8⟩
              go_wp2_with fail
              go_ret
              exact ⟨rfl, bch HB7.out hb8⟩
        · have q0 : (irErr P != 0) = true := by rw [bne_iff_ne]; exact he
          have qe : (irErr P == irErr P) = true := by simp
          rw [HPE.out] at he
          replace HFB := Lib.hid (HFB.out he)
          unfold irZero at HFB
          rw [HPE.out] at q0 qe
          generalize irErr ⟨4, [], [⟨L, ⟨2, n, -1, 0⟩⟩], 0, 0⟩ = er at *
          clear he HFD HAL
          go_wp2_with fail
          refine (HFB.out _ _ _ HI5.out).mono ?_
          rintro e w6 ⟨A, ac, C, bc, rfl, hIq, hb6⟩
          simp only [List.length_nil] at hIq ⊢
          have hb7 := bnew w6 (.cells #[.int .i64 0, .slice A 0 ac, .slice C 0 bc, .int .i64 0, .int .i64 0] 25)
          have HX7 := Lib.hid (((bch hb6 hb7).block _ (lt_of_blk HX5.out)).trans HX5.out)
          have HB7 := Lib.hid (bch HB5.out (bch hb6 hb7))
          have HI7 := Lib.hid (IrRep.next HI5.out (bch hb6 hb7))
          clear c0 c1 c2 c3 c4 hIq hb6 hb7
          go_upto_region 11 with (fail)
          generalize w6.alloc (.cells #[.int .i64 0, .slice A 0 ac, .slice C 0 bc, .int .i64 0, .int .i64 0] 25) = w7 at *
          obtain ⟨c0, c1, c2, c3, c4, _⟩ := ir_cells_at HX7.out
          go_wp2_with fail
          refine (HCK.out _ _ _ HI7.out).mono ?_
          rintro e w8 ⟨rfl, hb8⟩
          go_wp2_with fail
          refine (HLV.out _).mono ?_
          rintro e w9 ⟨rfl, hb9⟩
          go_wp2_with fail
          go_ret
          exact ⟨rfl, bch (bch HB7.out hb8) hb9⟩

theorem own : ownKnob Try.prog.godebug = none := by kernel_rfl
set_option maxRecDepth 100000 in
theorem lifted (os : Os) (started : os.Started) (H : Type) (enc : TypeId × Value → H) :
    ReturnsInHanded {} Try.checked os 5 .any (Rows.foldAllSpec.pre6 enc Try.prog Try.f5 Rows.foldAllRow.domain false) (Rows.foldAllSpec.post enc Try.prog Try.f5 false true false false) := by
  refine returnsInHanded_of_change_sized (C := Try.checked) own started (by kernel_rfl) Try.func5
    (ChangeSpec.witness6 (enc := enc) (C := Try.checked) false ⟨#[], #[.slice none 0 0, .agg #[.int .i64 0, .int .i64 0, .int .i64 0, .int .i64 0], .int .i64 0], []⟩ 8 (by kernel_rfl) (by kernel_rfl) (by kernel_rfl) (by kernel_rfl)) ?_
  intro W base args ds gs before hval0 hW hcnd hsz _
  have hval : ∀ (j : Nat) t v, Try.f5.params[j]? = some t → args[j]? = some v → Value.okWide Try.prog W .any base t v := hval0
  have hW' := hW
  obtain ⟨p, q, hA0, hV, rfl, hfz, hnd⟩ := hW
  have hA : DataW.TrodAll enc Try.prog W 0 (fun _ => true) true Try.f5.params.toList args.toList ds p := hA0
  rw [Try.params5] at hA hval
  obtain ⟨v0, vs0, d0, ds0, p0, q0, hargs, rfl, rfl, h0, r0⟩ := trodAll_cons hA
  obtain ⟨v1, vs1, d1, ds1, p1, q1, rfl, rfl, rfl, h1, r1⟩ := trodAll_cons r0
  obtain ⟨v2, vs2, d2, ds2, p2, q2, rfl, rfl, rfl, h2, r2⟩ := trodAll_cons r1
  obtain ⟨rfl, rfl, rfl⟩ := trodAll_nil r2
  obtain rfl : args = #[v0, v1, v2] := by cases args; simp_all
  obtain ⟨rfl, rfl⟩ := trodVars_none hV
  clear hA0 hval0
  obtain ⟨ops, ho, hf⟩ := open_ops (hval 0 34 v0 rfl rfl) h0 (fun x hx => by simpa using hW'.lt x (by simp [hx])) (weights_of hsz 0 rfl rfl)
  obtain ⟨a, b, c, d, rfl, ha, hb, hc, hd⟩ := open_four (hval 1 35 v1 rfl rfl) h1 (fun x hx => by simpa using hW'.lt x (by simp [hx])) (weights_of hsz 1 rfl rfl)
  obtain ⟨n, rfl, rfl, rfl, wn⟩ := open_int Try.underlying3 (hval 2 3 v2 rfl rfl) h2
  refine (walk v0 ops hf a b c d n ha hb hc hd (intR_wf wn) W ho).mono fun e W' ⟨he, hg⟩ => ?_
  subst he
  exact ⟨_, rfl, law_post (by kernel_rfl) (by kernel_rfl) rfl (by kernel_rfl) Try.underlying4 rfl hW' hg⟩

theorem proved : Rows.FoldAllSaid :=
  OpenClaim.holds_of_wide 5 Try.f5 rfl rfl rfl rfl rfl rfl rfl ⟨rfl, rfl, rfl, rfl, rfl⟩ rfl rfl rfl rfl rfl (by kernel_rfl) Try.func5 (by kernel_rfl)
    (of_decide_eq_true (by kernel_rfl)) (by unfold Func.isWrapper; first | (rw [if_pos (by decide +kernel)]; kernel_rfl) | (rw [if_neg (by decide +kernel)]; exact ⟨rfl, rfl⟩))
    (fun os started H enc _ => lifted os started H enc)
#print axioms proved
end Go.Proofs.Ytfadeipdepamlaa.foldAll
