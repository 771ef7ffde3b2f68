/- Parts of a proof, joined. No condition but those that each theorem names. -/
import Derived.WalkKit
import Derived.OpenShut
import Derived.Below
import Derived.Lib.Hide
import Derived.Laws.OwnMore
import Derived.Deep.QuietTactic
import Derived.Deep.AppendLies
import Derived.ProofKit
import Derived.SizedLaws
import Derived.Test.YthkobddggoojlaaProg
import Derived.Handy
import Derived.Deep.RegionHeld3
import Derived.BigQuiet
import Derived.Maps.AppendAt
import Derived.StillTailTactics
import Derived.Test.YthkobddggoojlaaTeG0e0
import Derived.Test.YthkobddggoojlaaTeG0e1
import Derived.Test.YthkobddggoojlaaTeG0e2
import Derived.Test.YthkobddggoojlaaTeG0e3
import Derived.Test.YthkobddggoojlaaTeG0e4
import Derived.Test.YthkobddggoojlaaTeG0e10
import Derived.Test.YthkobddggoojlaaTeG0ce11
import Derived.Test.YthkobddggoojlaaTeG1e6
import Derived.Test.YthkobddggoojlaaTeIrC
import Derived.Test.YthkobddggoojlaaTeG0e9
import Derived.Test.YthkobddggoojlaaTeG1e12
namespace Go.Proofs.Ythkobddggoojlaa
open Go.RowKit
def sel (n m : Nat) (x : Int) : Int := if m < n then x else 0
theorem sel_src (ts : List Int) (o : Opn) (j : Nat) (t : Int) : sel (fSrc o.kind) j (rdT ts t) = srcP ts o j t := rfl
theorem sel_0 (m : Nat) (x : Int) : sel 0 m x = 0 := by unfold sel; rw [if_neg (by omega)]
theorem sel_lt {n m : Nat} (h : m < n) (x : Int) : sel n m x = x := by unfold sel; rw [if_pos h]
theorem sel_ge {n m : Nat} (h : n ≤ m) (x : Int) : sel n m x = 0 := by unfold sel; rw [if_neg (by omega)]
theorem RunAt.tempT {w : World} {B M gt : Nat} {gs : List Nat} {aav : Value} {p : Ir} {av bv : Value} {s : St} (h : RunAt w B M gt gs aav p av bv s) (t : Int) (h0 : 0 ≤ t) (h1 : t < (s.ts.length : Int)) : w.cell? ⟨gt, t.toNat, none⟩ = some (.int .i64 (rdT s.ts t)) ∧ w.frozen? ⟨gt, t.toNat, none⟩ = false :=
  h.temp t.toNat (by omega)
theorem step_pure {p : Ir} {s : St} {o : Opn} {v : Nat} (h : pureP s.ts o = some v) : stepP p s o = some ⟨s.ts.set o.dst.toNat (v : Int), s.mem⟩ := by unfold stepP; rw [h]
theorem step_trap {p : Ir} {s : St} {o : Opn} (h : pureP s.ts o = none) (h2 : ((s.mem.getD o.imm.toNat []).length : Int) ≤ srcP s.ts o 0 o.a) : stepP p s o = none := by
  unfold stepP; rw [h]; simp only; rw [if_pos h2]
theorem step_load {p : Ir} {s : St} {o : Opn} (h : pureP s.ts o = none) (h2 : ¬ ((s.mem.getD o.imm.toNat []).length : Int) ≤ srcP s.ts o 0 o.a) (hk : o.kind = 18) :
    stepP p s o = some ⟨s.ts.set o.dst.toNat ((s.mem.getD o.imm.toNat []).getD (srcP s.ts o 0 o.a).toNat 0), s.mem⟩ := by
  unfold stepP; rw [h]; simp only; rw [if_neg h2, if_pos hk]
theorem step_store {p : Ir} {s : St} {o : Opn} (h : pureP s.ts o = none) (h2 : ¬ ((s.mem.getD o.imm.toNat []).length : Int) ≤ srcP s.ts o 0 o.a) (hk : o.kind ≠ 18) :
    stepP p s o = some ⟨s.ts, s.mem.set o.imm.toNat ((s.mem.getD o.imm.toNat []).set (srcP s.ts o 0 o.a).toNat (if (p.arrays.getD o.imm.toNat arrNone).elem = 1 then srcP s.ts o 1 o.b % 256 else srcP s.ts o 1 o.b))⟩ := by
  unfold stepP; rw [h]; simp only; rw [if_neg h2, if_neg hk]
theorem and_255 (n : Int) : bits .and .i64 n 255 = n % 256 := by
  show IntKind.i64.wrap ((BitVec.ofInt 64 n &&& BitVec.ofInt 64 255).toNat : Int) = _
  rw [BitVec.toNat_and, show (BitVec.ofInt 64 255).toNat = 2 ^ 8 - 1 from rfl, Nat.and_two_pow_sub_one_eq_mod, BitVec.toNat_ofInt, wrapi64]
  unfold wrap64; omega
theorem RunAt.drewn {w : World} {B M gt : Nat} {gs : List Nat} {aav : Value} {p : Ir} {av bv : Value} {s : St} (h : RunAt w B M gt gs aav p av bv s) (n : Nat) : RunAt (w.drewN n) B M gt gs aav p av bv s := ⟨h.1, h.2, h.3, h.4, h.5, h.6, h.7, h.8, h.9, h.10, h.11, h.12⟩
/-- But for the temps' and the arrays' blocks all is as it was. -/
def Kept (gt : Nat) (gs : List Nat) (w w' : World) : Prop := ∀ k, k < w.heap.size → k ≠ gt → k ∉ gs → w'.heap[k]? = w.heap[k]?
theorem kept_below {gt : Nat} {gs : List Nat} {w w' : World} (h : Below w.heap.size w w') : Kept gt gs w w' := fun k hk _ _ => h.block k hk
theorem kept_set {gt : Nat} {gs : List Nat} {w w' : World} (h : Below w.heap.size w w') (a : Addr) (v : Value) (ha : a.block = gt ∨ a.block ∈ gs) : Kept gt gs w (w'.setCell a v) := fun k hk h1 h2 =>
  (Below.heap_setCell w' a v k (fun e => by rw [← e] at ha; exact ha.elim h1 h2)).trans (h.block k hk)
def OpPost (p : Ir) (av bv : Value) (B M gt : Nat) (gs : List Nat) (aav : Value) (s : St) (x : Option St) (w : World) (e : Ending) (w' : World) : Prop :=
  match x with
  | some s' => e = .returned (.bool true) ∧ RunAt w' B M gt gs aav p av bv s' ∧ Below B w w' ∧ Kept gt gs w w'
  | none => e = .returned (.bool false) ∧ RunAt w' B M gt gs aav p av bv s ∧ Below B w w' ∧ Kept gt gs w w'
set_option maxRecDepth 100000 in
set_option maxHeartbeats 8000000 in
theorem run_op (p : Ir) (AA : Option Addr) (ac : Nat) (bv : Value) (o : Opn) (ho : opP p o) (B M gt : Nat) (gs : List Nat) (aav : Value) (s : St) (hf : Fit p s) (hT : 0 ≤ p.temps ∧ p.temps ≤ 1048576) (hn : p.arrays.length ≤ 1048576) (hl : ∀ a ∈ p.arrays, shapedP a) (w : World)
    (hR : RunAt w B M gt gs aav p (.slice AA p.arrays.length ac) bv s) (hI : SlRep arrEnc w B (.slice AA p.arrays.length ac) p.arrays) :
    Calls Try.prog 29 #[.pointer (some ⟨M, 0, none⟩), opVal o] w (OpPost p (.slice AA p.arrays.length ac) bv B M gt gs aav s (stepP p s o) w) := by
  have hBw : B ≤ w.heap.size := by have := lt_of_blk hR.blk; have := hR.bM; omega
  obtain ⟨ht1, ht2, hm1, hm2, hm3⟩ := hf
  obtain ⟨ho1, ⟨ho2, ho3⟩, ho4, ho5, ho6, ho7, ho8⟩ := ho
  have HR := Lib.hid hR
  have HI := Lib.hid hI
  have HTW := Lib.hid ht2
  have HMW := Lib.hid hm3
  have hTL : (s.ts.length : Int) = p.temps := by omega
  have HTL := Lib.hid hTL
  have HML := Lib.hid hm1
  have HML2 := Lib.hid hm2
  have HU := Lib.hid (fun W => ir_Uses o W)
  have HV := Lib.hid (fun W => ir_Value o (srcP s.ts o 0 o.a) (srcP s.ts o 1 o.b) (srcP s.ts o 2 o.c) W)
  have hx0 : 0 < fSrc o.kind → 0 ≤ o.a ∧ o.a < (s.ts.length : Int) := fun h => by rw [show decide (0 < fSrc o.kind) = true from decide_eq_true h] at ho5; rw [hTL]; exact ho5
  have hx1 : 1 < fSrc o.kind → 0 ≤ o.b ∧ o.b < (s.ts.length : Int) := fun h => by rw [show decide (1 < fSrc o.kind) = true from decide_eq_true h] at ho6; rw [hTL]; exact ho6
  have hx2 : 2 < fSrc o.kind → 0 ≤ o.c ∧ o.c < (s.ts.length : Int) := fun h => by rw [show decide (2 < fSrc o.kind) = true from decide_eq_true h] at ho7; rw [hTL]; exact ho7
  have HX0 := Lib.hid hx0
  have HX1 := Lib.hid hx1
  have HX2 := Lib.hid hx2
  have hs3 := fSrc_le o.kind
  have hTs : s.ts.length ≤ 1048576 := by omega
  rw [← sel_src, ← sel_src, ← sel_src] at HV
  unfold opVal at HU HV ⊢
  generalize hPost : OpPost p (.slice AA p.arrays.length ac) bv B M gt gs aav s (stepP p s o) w = PO
  have HPO := Lib.hid hPost
  clear hPost hR hI ht2 hm3 hTL hm1 hm2 ho5 ho6 ho7 hx0 hx1 hx2 ht1
  generalize hN : fSrc o.kind = n at *
  have HN := Lib.hid hN
  clear hN
  go_enter Try.func29, Try.ntmps29
  go_wp2_with fail
  refine (HU.out _).mono ?_
  rintro e w2 ⟨g, rfl, hg, hge, hb2⟩
  have hbx := bnew w (.cells #[.int .i64 o.kind, .int .i64 o.dst, .int .i64 o.a, .int .i64 o.b, .int .i64 o.c, .int .i64 o.imm] 46)
  have hxo := (hb2.block w.heap.size (by simp)).trans (heap_alloc_new w _)
  have HXO := Lib.hid hxo
  have hR2 := HR.out.below (bch hbx hb2)
  have HR2 := Lib.hid hR2
  have HB2 := Lib.hid (bch hbx hb2)
  have u0 := (cell_of_blk hg 0).1
  have u1 := (cell_of_blk hg 1).1
  have u2 := (cell_of_blk hg 2).1
  have m5 : w2.cell? ⟨M, 5, none⟩ = some (.slice (some ⟨gt, 0, none⟩) s.ts.length s.ts.length) := (cell_of_blk hR2.blk 5).1
  clear hbx hb2 hxo hR2 hg hge
  go_wp2_with fail
  go_loop [5, 6, 7, 16] (fun va vb vc vi => ∃ j : Nat, j ≤ n ∧ vi = .int .i64 j ∧ va = .int .i64 (sel j 0 (rdT s.ts o.a)) ∧ vb = .int .i64 (sel j 1 (rdT s.ts o.b)) ∧ vc = .int .i64 (sel j 2 (rdT s.ts o.c))) (fun _ _ _ vi => n - (intOf vi).toNat)
  case atStart => exact ⟨0, by omega, rfl, by rw [sel_0], by rw [sel_0], by rw [sel_0]⟩
  case round =>
    obtain ⟨j, hj, rfl, rfl, rfl, rfl⟩ := hrel
    by_cases hlt : j < n
    · have hj3 : j = 0 ∨ j = 1 ∨ j = 2 := by omega
      rcases hj3 with rfl | rfl | rfl
      · obtain ⟨b0, b1⟩ := HX0.out (by omega)
        obtain ⟨t0, _⟩ := HR2.out.tempT o.a b0 b1
        rw [sel_0, sel_0, sel_0]
        generalize rdT s.ts o.a = xa at *
        go_wp2_with fail
        go_round
        case rel => exact ⟨1, by omega, rfl, by rw [sel_lt (by omega)], by rw [sel_ge (by omega)], by rw [sel_ge (by omega)]⟩
        case measure => simp [intOf]; omega
      · obtain ⟨b0, b1⟩ := HX1.out (by omega)
        obtain ⟨t0, _⟩ := HR2.out.tempT o.b b0 b1
        rw [sel_lt (show 0 < 1 by omega), sel_ge (show 1 ≤ 1 by omega), sel_ge (show 1 ≤ 2 by omega)]
        generalize rdT s.ts o.a = xa at *
        generalize rdT s.ts o.b = xb at *
        go_wp2_with fail
        go_round
        case rel => exact ⟨2, by omega, rfl, by rw [sel_lt (by omega)], by rw [sel_lt (by omega)], by rw [sel_ge (by omega)]⟩
        case measure => simp [intOf]; omega
      · obtain ⟨b0, b1⟩ := HX2.out (by omega)
        obtain ⟨t0, _⟩ := HR2.out.tempT o.c b0 b1
        rw [sel_lt (show 0 < 2 by omega), sel_lt (show 1 < 2 by omega), sel_ge (show 2 ≤ 2 by omega)]
        generalize rdT s.ts o.a = xa at *
        generalize rdT s.ts o.b = xb at *
        generalize rdT s.ts o.c = xc at *
        go_wp2_with fail
        go_round
        case rel => exact ⟨3, by omega, rfl, by rw [sel_lt (by omega)], by rw [sel_lt (by omega)], by rw [sel_lt (by omega)]⟩
        case measure => simp [intOf]; omega
    · obtain rfl : j = n := by omega
      have e0 : sel j 0 (rdT s.ts o.a) = srcP s.ts o 0 o.a := by rw [← HN.out]; rfl
      have e1 : sel j 1 (rdT s.ts o.b) = srcP s.ts o 1 o.b := by rw [← HN.out]; rfl
      have e2 : sel j 2 (rdT s.ts o.c) = srcP s.ts o 2 o.c := by rw [← HN.out]; rfl
      rw [e0, e1, e2] at HV ⊢
      clear e0 e1 e2
      have hw0 := srcP_word HTW.out o 0 o.a
      have hw1 := srcP_word HTW.out o 1 o.b
      unfold wordR at hw0 hw1
      have HSP := Lib.hid (fun v => step_pure (p := p) (s := s) (o := o) (v := v))
      have HSN := Lib.hid (step_trap (p := p) (s := s) (o := o))
      have HSL := Lib.hid (step_load (p := p) (s := s) (o := o))
      have HSS := Lib.hid (step_store (p := p) (s := s) (o := o))
      have HVN : Hid (pureP s.ts o = none → o.kind = 18 ∨ o.kind = 19) := Lib.hid (fun h => valP_none h ho1)
      have HVS : Hid (∀ v, pureP s.ts o = some v → 0 ≤ o.dst ∧ o.dst < (s.ts.length : Int)) := Lib.hid (fun v h => by
        have hk : 1 ≤ o.kind ∧ o.kind ≤ 17 := by
          unfold fOk at ho1
          simp only [decide_eq_true_eq] at ho1
          have h18 : ¬ 17 < o.kind := by
            intro h2
            have e : pureP s.ts o = none := by
              unfold pureP valP
              rw [if_neg (by omega), if_neg (by omega), if_neg (by omega), if_neg (by omega), if_neg (by omega), if_neg (by omega), if_neg (by omega), if_neg (by omega), if_neg (by omega), if_neg (by omega), if_neg (by omega), if_neg (by omega), if_neg (by omega), if_neg (by omega), if_neg (by omega), if_neg (by omega), if_neg (by omega)]
            rw [e] at h; cases h
          omega
        have hd : fDst o.kind = true := by unfold fDst; rw [decide_eq_true_eq]; omega
        rw [hd] at ho4
        rw [HTL.out]
        exact ho4)
      have HLD : Hid (o.kind = 18 → 0 ≤ o.dst ∧ o.dst < (s.ts.length : Int)) := Lib.hid (fun h => by
        have hd : fDst o.kind = true := by unfold fDst; rw [decide_eq_true_eq]; omega
        rw [hd] at ho4
        rw [HTL.out]
        exact ho4)
      have HIM : Hid (o.kind = 18 ∨ o.kind = 19 → 0 ≤ o.imm ∧ o.imm < (p.arrays.length : Int)) := Lib.hid (fun h => ⟨ho2, (ho8 h).1⟩)
      replace HV : Hid (∀ W, Calls Try.prog 50 #[.agg #[.int .i64 o.kind, .int .i64 o.dst, .int .i64 o.a, .int .i64 o.b, .int .i64 o.c, .int .i64 o.imm], .int .i64 (srcP s.ts o 0 o.a), .int .i64 (srcP s.ts o 1 o.b), .int .i64 (srcP s.ts o 2 o.c)] W (ValPost (pureP s.ts o) W)) := HV
      clear ho1 ho2 ho3 ho4 ho8 hs3 hlt hj u0 u1 u2 m5
      generalize pureP s.ts o = pv at *
      generalize srcP s.ts o 0 o.a = y0 at *
      generalize srcP s.ts o 1 o.b = y1 at *
      generalize srcP s.ts o 2 o.c = y2 at *
      have z0 : w2.cell? ⟨w.heap.size, 0, none⟩ = some (.int .i64 o.kind) := (cell_of_blk HXO.out 0).1
      have z1 : w2.cell? ⟨w.heap.size, 1, none⟩ = some (.int .i64 o.dst) := (cell_of_blk HXO.out 1).1
      have z2 : w2.cell? ⟨w.heap.size, 2, none⟩ = some (.int .i64 o.a) := (cell_of_blk HXO.out 2).1
      have z3 : w2.cell? ⟨w.heap.size, 3, none⟩ = some (.int .i64 o.b) := (cell_of_blk HXO.out 3).1
      have z4 : w2.cell? ⟨w.heap.size, 4, none⟩ = some (.int .i64 o.c) := (cell_of_blk HXO.out 4).1
      have z5 : w2.cell? ⟨w.heap.size, 5, none⟩ = some (.int .i64 o.imm) := (cell_of_blk HXO.out 5).1
      go_wp2_with fail
      refine (HV.out _).mono ?_
      rintro e w3 ⟨rfl, hb3⟩
      have hx3 := (hb3.block _ (lt_of_blk HXO.out)).trans HXO.out
      have hR3 := HR2.out.below hb3
      have m5 : w3.cell? ⟨M, 5, none⟩ = some (.slice (some ⟨gt, 0, none⟩) s.ts.length s.ts.length) := (cell_of_blk hR3.blk 5).1
      have m6 : w3.cell? ⟨M, 6, none⟩ = some aav := (cell_of_blk hR3.blk 6).1
      have y1' : w3.cell? ⟨w.heap.size, 1, none⟩ = some (.int .i64 o.dst) := (cell_of_blk hx3 1).1
      have y5' : w3.cell? ⟨w.heap.size, 5, none⟩ = some (.int .i64 o.imm) := (cell_of_blk hx3 5).1
      have y0' : w3.cell? ⟨w.heap.size, 0, none⟩ = some (.int .i64 o.kind) := (cell_of_blk hx3 0).1
      have HR3 := Lib.hid hR3
      have HB3 : Hid (Below B w w3) := Lib.hid ((bch HB2.out hb3).mono hBw)
      have HB3W : Hid (Below w.heap.size w w3) := Lib.hid (bch HB2.out hb3)
      clear hb3 hx3 hR3 z0 z1 z2 z3 z4 z5
      cases pv with
      | some v =>
        obtain ⟨d0, d1⟩ := HVS.out v rfl
        obtain ⟨t0, f0⟩ := HR3.out.tempT o.dst d0 d1
        generalize rdT s.ts o.dst = od at *
        have HE := Lib.hid (HSP.out v rfl)
        clear m6 y5' y0' HSP HSN HSL HSS HVN HVS HLD HIM
        simp only [optVal]
        go_wp2_with fail
        go_still_tail 8, (by kernel_rfl)
        change wpList _ _ _ _ _ w3.drew
        have t3 : w3.drew.cell? ⟨gt, o.dst.toNat, none⟩ = some (.int .i64 od) := t0
        have f3 : w3.drew.frozen? ⟨gt, o.dst.toNat, none⟩ = false := f0
        have HRF := Lib.hid (HR3.out.drew_.setT o.dst.toNat (v : Int))
        have HBF := Lib.hid (HB3.out.drew.setCell (p := ⟨gt, o.dst.toNat, none⟩) HR3.out.bt (.int .i64 (v : Int)))
        have HKP : Hid (Kept gt gs w (w3.drew.setCell ⟨gt, o.dst.toNat, none⟩ (.int .i64 (v : Int)))) := Lib.hid (kept_set HB3W.out.drew _ _ (Or.inl rfl))
        generalize w3.drew = w4 at *
        go_wp2_with fail
        rw [← HPO.out, HE.out]
        exact ⟨rfl, HRF.out, HBF.out, HKP.out⟩
      | none =>
        have hk := HVN.out rfl
        obtain ⟨i0, i1⟩ := HIM.out hk
        have hgs : gs.length = p.arrays.length := HR3.out.len.trans HML.out
        have hig : o.imm.toNat < gs.length := by omega
        obtain ⟨r, cap, rfl, hrc⟩ := HR3.out.slot o.imm.toNat hig
        have hml := HML2.out o.imm.toNat (by omega)
        have hsh := hl _ (getD_memI p.arrays o.imm.toNat arrNone (by omega))
        obtain ⟨_, hs1, hs2⟩ := hsh
        have hE := HR3.out.elem o.imm.toNat hig
        have hEW := getD_word (getD_nil_word HMW.out o.imm.toNat) y0.toNat
        have HSM := Lib.hid (fun v => HR3.out.setM o.imm.toNat hig y0.toNat v)
        have HBG := Lib.hid (HR3.out.bg _ (getD_memI gs o.imm.toNat 0 hig))
        have HGM := Lib.hid (getD_memI gs o.imm.toNat 0 hig)
        have hl1 : (s.mem.getD o.imm.toNat []).length ≤ 16384 := by omega
        have hl0 : 1 ≤ (s.mem.getD o.imm.toNat []).length := by omega
        have HEW := Lib.hid hEW
        have HE2 := Lib.hid hE
        unfold iSl at hrc
        have hgl : (gs.length : Int) = (p.arrays.length : Int) := by omega
        have hig2 : o.imm < (gs.length : Int) := by omega
        have hcg : gs.length ≤ cap := by
          rcases HR3.out.row.2 with ⟨h, _⟩ | ⟨_, _, _, h, _, _, h2, _⟩
          · cases h
          · injection h with _ _ h3; omega
        clear hE hml hs1 hs2 HSP hgs hEW
        generalize hLe : (s.mem.getD o.imm.toNat []).length = le at *
        have HLE := Lib.hid hLe
        clear hLe
        generalize hGi : gs.getD o.imm.toNat 0 = gi at *
        have HGI := Lib.hid hGi
        clear hGi
        simp only [optVal]
        by_cases htr : (le : Int) ≤ y0
        · have HE := Lib.hid (HSN.out rfl htr)
          clear HSM HSN HSL HSS HVN HVS HLD HIM
          go_wp2_with fail
          go_quiet (fail)
          go_wp2_with fail
          rw [← HPO.out, HE.out]
          exact ⟨rfl, HR3.out.drewn _, bdrawn HB3.out _, kept_below (bdrawn HB3W.out _)⟩
        · obtain ⟨ce, fe⟩ := HE2.out y0.toNat (by omega)
          by_cases hk8 : o.kind = 18
          · obtain ⟨d0, d1⟩ := HLD.out hk8
            obtain ⟨t0, f0⟩ := HR3.out.tempT o.dst d0 d1
            have HE := Lib.hid (HSL.out rfl (by omega) hk8)
            have HSR := Lib.hid (fun nq v => (HR3.out.drewn nq).drew_.setT o.dst.toNat v)
            have q8 : (o.kind == 18) = true := by rw [beq_iff_eq]; exact hk8
            generalize rdT s.ts o.dst = od at *
            generalize (s.mem.getD o.imm.toNat []).getD y0.toNat 0 = ev at *
            clear HSN HSL HSS HVN HVS HLD HIM hk8 hk HSM
            go_wp2_with fail
            go_quiet (fail)
            go_wp2_with fail
            have hN : ∀ q, (w3.drewN nq).cell? q = w3.cell? q := fun _ => rfl
            have hNf : ∀ q, (w3.drewN nq).frozen? q = w3.frozen? q := fun _ => rfl
            rw [← hN] at t0 ce m5 y1' y0' m6 hrc
            rw [← hNf] at f0
            have HRF := Lib.hid (fun v => HSR.out nq v)
            have HBF := Lib.hid (bdrawn HB3.out nq)
            have HBFW := Lib.hid (bdrawn HB3W.out nq)
            clear hN hNf fe HE2 HI HXO
            generalize w3.drewN nq = w4 at *
            go_still_tail 11, (by kernel_rfl)
            change wpList _ _ _ _ _ w4.drew
            have t3 : w4.drew.cell? ⟨gt, o.dst.toNat, none⟩ = some (.int .i64 od) := t0
            have f3 : w4.drew.frozen? ⟨gt, o.dst.toNat, none⟩ = false := f0
            have HRG := Lib.hid (HRF.out ev)
            have HBG2 := Lib.hid (HBF.out.drew.setCell (p := ⟨gt, o.dst.toNat, none⟩) HR3.out.bt (.int .i64 ev))
            have HKP : Hid (Kept gt gs w (w4.drew.setCell ⟨gt, o.dst.toNat, none⟩ (.int .i64 ev))) := Lib.hid (kept_set HBFW.out.drew _ _ (Or.inl rfl))
            clear HRF
            generalize w4.drew = w5 at *
            go_wp2_with fail
            rw [← HPO.out, HE.out]
            exact ⟨rfl, HRG.out, HBG2.out, HKP.out⟩
          · have q8 : (o.kind == 18) = false := by rw [beq_eq_false_iff_ne]; exact hk8
            have HE := Lib.hid (HSS.out rfl (by omega) hk8)
            obtain ⟨ab, aoff, rfl, hab, ax0, ax1, ax2, ax3⟩ := arr_at (HI.out.below HB3.out (Nat.le_refl _)) o.imm.toNat (by omega)
            have m1 : w3.cell? ⟨M, 1, none⟩ = some (.slice (some ⟨ab, aoff, none⟩) p.arrays.length ac) := (cell_of_blk HR3.out.blk 1).1
            have h255 := and_255 y1
            clear ax1 ax2 ax3 HSN HSL HSS HVN HVS HLD HIM hk HEW
            generalize (s.mem.getD o.imm.toNat []).getD y0.toNat 0 = ev at *
            generalize (p.arrays.getD o.imm.toNat arrNone).elem = ae at *
            by_cases hae : ae = 1
            · rw [if_pos hae] at HE
              subst hae
              generalize hz : y1 % 256 = z at *
              have HZ := Lib.hid hz
              clear hz
              go_wp2_with fail
              go_quiet (fail)
              go_wp2_with fail
              go_quiet (fail)
              go_wp2_with fail
              rw [← HPO.out, HE.out]
              exact ⟨rfl, (HSM.out z).drewn _, bdrawn (HB3.out.setCell (p := ⟨gi, y0.toNat, none⟩) HBG.out (.int .i64 z)) _, fun k h1 h2 h3 => kept_set HB3W.out ⟨gi, y0.toNat, none⟩ (.int .i64 z) (Or.inr HGM.out) k h1 h2 h3⟩
            · rw [if_neg hae] at HE
              have q1 : (ae == 1) = false := by rw [beq_eq_false_iff_ne]; exact hae
              go_wp2_with fail
              go_quiet (fail)
              go_wp2_with fail
              go_quiet (fail)
              go_wp2_with fail
              rw [← HPO.out, HE.out]
              exact ⟨rfl, (HSM.out y1).drewn _, bdrawn (HB3.out.setCell (p := ⟨gi, y0.toNat, none⟩) HBG.out (.int .i64 y1)) _, fun k h1 h2 h3 => kept_set HB3W.out ⟨gi, y0.toNat, none⟩ (.int .i64 y1) (Or.inr HGM.out) k h1 h2 h3⟩
end Go.Proofs.Ythkobddggoojlaa
namespace Go.Proofs.Ythkobddggoojlaa
open Go.RowKit
set_option maxRecDepth 100000 in
set_option maxHeartbeats 4000000 in
theorem run_next (p : Ir) (av bv : Value) (t : Trm) (ht : t.kind = 1 ∨ (0 ≤ t.a ∧ t.a < p.temps)) (B M gt : Nat) (gs : List Nat) (aav : Value) (s : St) (hf : Fit p s) (hT : p.temps ≤ 1048576) (w : World)
    (hR : RunAt w B M gt gs aav p av bv s) :
    Calls Try.prog 31 #[.pointer (some ⟨M, 0, none⟩), trmVal t] w fun e w' => e = .returned (.int .i64 (nextP s.ts t)) ∧ Below w.heap.size w w' := by
  have hR1 := hR.below (bnew w (.cells #[.int .i64 t.kind, .int .i64 t.a, .int .i64 t.yes, .int .i64 t.no] 38))
  have m5 : (w.alloc (.cells #[.int .i64 t.kind, .int .i64 t.a, .int .i64 t.yes, .int .i64 t.no] 38)).cell? ⟨M, 5, none⟩ = some (.slice (some ⟨gt, 0, none⟩) s.ts.length s.ts.length) := (cell_of_blk hR1.blk 5).1
  have htl := hf.tl
  have hTs : s.ts.length ≤ 1048576 := by omega
  obtain ⟨k, a, y, n⟩ := t
  unfold trmVal nextP
  simp only at ht hR1 m5 ⊢
  by_cases hk : k = 1
  · subst hk
    rw [if_pos rfl]
    clear hR1 m5 ht htl
    go_enter Try.func31, Try.ntmps31
    go_wp2_with fail
    go_ret
    exact ⟨rfl, bnew _ _⟩
  · have q1 : (k == 1) = false := by rw [beq_eq_false_iff_ne]; exact hk
    rw [if_neg hk]
    obtain ⟨a0, a1⟩ : 0 ≤ a ∧ a < (s.ts.length : Int) := by
      rcases ht with h | ⟨h0, h1⟩
      · exact absurd h hk
      · exact ⟨h0, by omega⟩
    obtain ⟨t0, _⟩ := hR1.tempT a a0 a1
    clear hR1 ht htl hk hR hf
    generalize rdT s.ts a = v at *
    by_cases h1 : v = 4294967295
    · subst h1
      rw [if_pos rfl]
      go_enter Try.func31, Try.ntmps31
      go_wp2_with fail
      go_quiet (fail)
      go_wp2_with fail
      go_ret
      exact ⟨rfl, bdrawn (bnew _ _) _⟩
    · have q2 : (v == 4294967295) = false := by rw [beq_eq_false_iff_ne]; exact h1
      rw [if_neg h1]
      by_cases h0 : v = 0
      · subst h0
        rw [if_pos rfl]
        go_enter Try.func31, Try.ntmps31
        go_wp2_with fail
        go_quiet (fail)
        go_wp2_with fail
        go_ret
        exact ⟨rfl, bdrawn (bnew _ _) _⟩
      · have q3 : (v == 0) = false := by rw [beq_eq_false_iff_ne]; exact h0
        rw [if_neg h0]
        clear h1 h0
        go_enter Try.func31, Try.ntmps31
        go_wp2_with fail
        go_quiet (fail)
        go_wp2_with fail
        go_ret
        exact ⟨rfl, bdrawn (bnew _ _) _⟩
end Go.Proofs.Ythkobddggoojlaa
namespace Go.Proofs.Ythkobddggoojlaa
open Go.RowKit
set_option linter.unusedVariables false
theorem run_index_at (s : ByteArray) (n : Nat) (z : Int) (hz : z = (n : Int)) (h : n < s.size) (W : World) : (Instr.index 9 (.string s) (.int .i64 z)).run Try.prog W = .ok (.int .u8 ((s.data.toList.getD n 0).toNat : Int)) W := by
  subst hz
  rw [run_index_string W 9 s .i64 (n : Int) Try.underlying9, dif_pos ⟨by omega, by omega⟩]
  have e : s[((n : Nat) : Int).toNat]'(by simpa using h) = s.data.toList.getD n 0 := by
    have hl : n < s.data.toList.length := by simpa using h
    rw [List.getD_eq_getElem?_getD, List.getElem?_eq_getElem hl]
    rfl
  rw [e]
def StPost (p : Ir) (av bv : Value) (input : ByteArray) (w : World) (e : Ending) (w' : World) : Prop :=
  ∃ M gt gs aav, e = .returned (.pointer (some ⟨M, 0, none⟩)) ∧ RunAt w' w.heap.size M gt gs aav p av bv (startP p input) ∧ Below w.heap.size w w'
set_option maxRecDepth 100000 in
set_option maxHeartbeats 8000000 in
theorem run_start (p : Ir) (AA : Option Addr) (ac : Nat) (bv : Value) (he : irErr p = 0) (input : ByteArray) (hin : (input.size : Int) = p.inp) (w : World) (hI : IrRep w w.heap.size p (.slice AA p.arrays.length ac) bv) :
    Calls Try.prog 28 #[irVal p (.slice AA p.arrays.length ac) bv, .string input] w (StPost p (.slice AA p.arrays.length ac) bv input w) := by
  obtain ⟨hng, hm⟩ := irErr_ok he
  obtain ⟨⟨⟨hi0, hi1, _⟩, ⟨ho0, ho1, _⟩, hT0, _⟩, hae, _⟩ := hm
  have HALL := Lib.hid (arrEnd_all p.inp p.out p.arrays 0 hae)
  have HIN := Lib.hid (arrEnd_in p.inp p.out p.arrays 0 hae)
  unfold greatP at hng
  obtain ⟨T, hT⟩ : ∃ T : Nat, p.temps = (T : Int) := ⟨p.temps.toNat, by omega⟩
  have hT1 : T ≤ 1048576 := by have := railSum_nonneg p.arrays; omega
  have hn1 : p.arrays.length ≤ 1048576 := by have := railSum_nonneg p.arrays; omega
  have HRA := Lib.hid hI.1
  have hsz : input.size ≤ 65536 := by omega
  have hmk := run_make_ints T (by omega)
  have HINP := Lib.hid hin
  have HT := Lib.hid hT
  unfold irVal
  rw [hT]
  have hSt : startP p input = ⟨List.replicate T 0, p.arrays.map (arrStart input)⟩ := by unfold startP; rw [hT]; rfl
  unfold StPost
  rw [hSt]
  have hb1 := bnew w (.cells #[.int .i64 (T : Int), .slice AA p.arrays.length ac, bv, .int .i64 p.inp, .int .i64 p.out] 25)
  have hx1 := heap_alloc_new w (.cells #[.int .i64 (T : Int), .slice AA p.arrays.length ac, bv, .int .i64 p.inp, .int .i64 p.out] 25)
  have hz1 : (w.alloc (.cells #[.int .i64 (T : Int), .slice AA p.arrays.length ac, bv, .int .i64 p.inp, .int .i64 p.out] 25)).heap.size = w.heap.size + 1 := by simp
  clear hng hae hI hin hi0 hi1 ho0 ho1 he hT0 hT hSt
  go_enter Try.func28, Try.ntmps28
  go_wp2_with fail
  generalize w.alloc (.cells #[.int .i64 (T : Int), .slice AA p.arrays.length ac, bv, .int .i64 p.inp, .int .i64 p.out] 25) = w1 at *
  have HS : Hid (∀ w', Below w1.heap.size w1 w' → (w'.cell? ⟨w.heap.size, 0, none⟩ = some (.int .i64 (T : Int)) ∧ w'.cell? ⟨w.heap.size, 1, none⟩ = some (.slice AA p.arrays.length ac) ∧ w'.cell? ⟨w.heap.size, 2, none⟩ = some bv ∧ w'.cell? ⟨w.heap.size, 3, none⟩ = some (.int .i64 p.inp) ∧ w'.cell? ⟨w.heap.size, 4, none⟩ = some (.int .i64 p.out) ∧ Below w1.heap.size w1 w')) := Lib.hid (fun w' hg => by
    have hx := (hg.block w.heap.size (by omega)).trans hx1
    exact ⟨(cell_of_blk hx 0).1, (cell_of_blk hx 1).1, (cell_of_blk hx 2).1, (cell_of_blk hx 3).1, (cell_of_blk hx 4).1, hg⟩)
  have hw0 := Below.refl w1.heap.size w1
  have HX1 := Lib.hid hx1
  have HB1 := Lib.hid hb1
  have HZ1 := Lib.hid hz1
  clear hx1 hb1
  go_region_held3 (fun w' => w'.cell? ⟨w.heap.size, 0, none⟩ = some (.int .i64 (T : Int)) ∧ w'.cell? ⟨w.heap.size, 1, none⟩ = some (.slice AA p.arrays.length ac) ∧ w'.cell? ⟨w.heap.size, 2, none⟩ = some bv ∧ w'.cell? ⟨w.heap.size, 3, none⟩ = some (.int .i64 p.inp) ∧ w'.cell? ⟨w.heap.size, 4, none⟩ = some (.int .i64 p.out) ∧ Below w1.heap.size w1 w')
    (exact HS.out _ (by first | assumption | exact Below.drew (by assumption) | exact Below.drew (bal (by assumption) _) | exact Below.drew (bal (bal (by assumption) _) _))) (fail)
  have hRun : RunAt (((w1.alloc (.cells (ints (List.replicate T 0)) 3)).alloc (.cells #[.int .i64 (T : Int), .slice AA p.arrays.length ac, bv, .int .i64 p.inp, .int .i64 p.out, .slice (some ⟨w.heap.size + 1, 0, none⟩) T T, .slice none 0 0] 87)).drew) w.heap.size (w.heap.size + 1 + 1) (w.heap.size + 1) [] (.slice none 0 0) p (.slice AA p.arrays.length ac) bv ⟨List.replicate T 0, []⟩ := by
    have e1 := heap_alloc_new (w1.alloc (.cells (ints (List.replicate T 0)) 3)) (.cells #[.int .i64 (T : Int), .slice AA p.arrays.length ac, bv, .int .i64 p.inp, .int .i64 p.out, .slice (some ⟨w.heap.size + 1, 0, none⟩) T T, .slice none 0 0] 87)
    have e2 := ((bnew (w1.alloc (.cells (ints (List.replicate T 0)) 3)) (.cells #[.int .i64 (T : Int), .slice AA p.arrays.length ac, bv, .int .i64 p.inp, .int .i64 p.out, .slice (some ⟨w.heap.size + 1, 0, none⟩) T T, .slice none 0 0] 87)).block w1.heap.size (by simp)).trans (heap_alloc_new w1 _)
    have e3 : (w1.alloc (.cells (ints (List.replicate T 0)) 3)).heap.size = w.heap.size + 1 + 1 := by rw [← HZ1.out]; simp
    rw [e3] at e1
    rw [HZ1.out] at e2
    refine ⟨?_, e2, World.ownsRow_nil _ _ _ _, fun i hi => by simp at hi, rfl, by omega, by omega, by simp, by omega, by simp, by simp, by intro r hr; cases hr⟩
    rw [show rnCells p (.slice AA p.arrays.length ac) bv (w.heap.size + 1) (St.mk (List.replicate T 0) []).ts.length (.slice none 0 0) = #[.int .i64 (T : Int), .slice AA p.arrays.length ac, bv, .int .i64 p.inp, .int .i64 p.out, .slice (some ⟨w.heap.size + 1, 0, none⟩) T T, .slice none 0 0] by unfold rnCells iSl; rw [HT.out]; simp]
    exact e1
  have HRun := Lib.hid hRun
  have hB4 : Below w.heap.size w (((w1.alloc (.cells (ints (List.replicate T 0)) 3)).alloc (.cells #[.int .i64 (T : Int), .slice AA p.arrays.length ac, bv, .int .i64 p.inp, .int .i64 p.out, .slice (some ⟨w.heap.size + 1, 0, none⟩) T T, .slice none 0 0] 87)).drew) := Below.drew (bal (bal HB1.out _) _)
  have HB4 := Lib.hid hB4
  have hx4 := (HS.out _ (Below.drew (bal (bal hw0 _) _) : Below w1.heap.size w1 (((w1.alloc (.cells (ints (List.replicate T 0)) 3)).alloc (.cells #[.int .i64 (T : Int), .slice AA p.arrays.length ac, bv, .int .i64 p.inp, .int .i64 p.out, .slice (some ⟨w.heap.size + 1, 0, none⟩) T T, .slice none 0 0] 87)).drew))).2.1
  clear hRun hB4
  generalize ((w1.alloc (.cells (ints (List.replicate T 0)) 3)).alloc (.cells #[.int .i64 (T : Int), .slice AA p.arrays.length ac, bv, .int .i64 p.inp, .int .i64 p.out, .slice (some ⟨w.heap.size + 1, 0, none⟩) T T, .slice none 0 0] 87)).drew = w4 at *
  clear hmk hw0
  go_wp2_with fail
  clear hx4
  go_loopw [20] (fun j wr => ∃ k : Nat, k ≤ p.arrays.length ∧ j = .int .i64 k ∧ ∃ gs aav, gs.length = k ∧ RunAt wr w.heap.size (w.heap.size + 1 + 1) (w.heap.size + 1) gs aav p (.slice AA p.arrays.length ac) bv ⟨List.replicate T 0, (p.arrays.take k).map (arrStart input)⟩ ∧ Below w.heap.size w wr) (fun j _ => p.arrays.length - (intOf j).toNat)
  case atStart => exact ⟨0, by omega, rfl, [], .slice none 0 0, rfl, HRun.out, HB4.out⟩
  case round =>
    obtain ⟨k, hk, rfl, gs, aav, hgl, hR, hBB⟩ := hrel
    have HR := Lib.hid hR
    have HBB := Lib.hid hBB
    by_cases hlt : k < p.arrays.length
    · obtain ⟨b, off, rfl, hb0, x0, x1, x2, x3⟩ := arr_at (HRA.out.below hBB (Nat.le_refl _)) k hlt
      have HTK : Hid ((p.arrays.take (k + 1)).map (arrStart input) = (p.arrays.take k).map (arrStart input) ++ [arrStart input (p.arrays.getD k arrNone)]) := Lib.hid (by rw [take_succ_getD p.arrays k arrNone hlt, List.map_append]; rfl)
      obtain ⟨hsh, hkk⟩ := HALL.out _ (getD_memI p.arrays k arrNone hlt)
      have hinn := HIN.out _ (getD_memI p.arrays k arrNone hlt)
      have hM := lt_of_blk hR.blk
      have hgt := lt_of_blk hR.tmp
      have HGN : Hid (wr.heap.size + 1 ∉ gs) := Lib.hid (fun hm => by
        obtain ⟨i, hi, hie⟩ := List.getElem_of_mem hm
        have := lt_of_blk (hR.mem i hi)
        rw [List.getD_eq_getElem?_getD, List.getElem?_eq_getElem hi] at this
        simp at this
        omega)
      have HGR : Hid (aav.ownBlock ≠ some (wr.heap.size + 1)) := Lib.hid (fun e => by have := (hR.row.lt _ e).2; omega)
      generalize p.arrays.getD k arrNone = ar at *
      obtain ⟨el, ln, ak, o⟩ := ar
      simp only at x0 x1 x2 x3 hinn
      obtain ⟨h2, h3, h4⟩ := hsh
      simp only at h2 h3 h4
      obtain ⟨L, rfl⟩ : ∃ L : Nat, ln = (L : Int) := ⟨ln.toNat, by omega⟩
      have hmk := run_make_ints L (by omega)
      have k0 : (0 : Int) ≤ (k : Int) := by omega
      have k1 : (k : Int) < (p.arrays.length : Int) := by omega
      have hz5 : ((wr.alloc (.cells #[.int .i64 el, .int .i64 (L : Int), .int .i64 ak, .int .i64 o] 59)).alloc (.cells (ints (List.replicate L 0)) 3)).heap.size = wr.heap.size + 1 + 1 := by simp
      have hA5 := ((bnew (wr.alloc (.cells #[.int .i64 el, .int .i64 (L : Int), .int .i64 ak, .int .i64 o] 59)) (.cells (ints (List.replicate L 0)) 3)).block wr.heap.size (by simp)).trans (heap_alloc_new wr _)
      have hG5 := alloc_new2 wr (.cells #[.int .i64 el, .int .i64 (L : Int), .int .i64 ak, .int .i64 o] 59) (.cells (ints (List.replicate L 0)) 3)
      have hB5 := bal (bnew wr (.cells #[.int .i64 el, .int .i64 (L : Int), .int .i64 ak, .int .i64 o] 59)) (.cells (ints (List.replicate L 0)) 3)
      have HR5 := Lib.hid (HR.out.below hB5)
      have HBQ := Lib.hid hB5
      have HB5 := Lib.hid (HBB.out.trans (hB5.mono HBB.out.size))
      have HA5 := Lib.hid hA5
      have HG5 := Lib.hid hG5
      have HZ5 := Lib.hid hz5
      clear hR hBB hA5 hG5 hB5 hz5
      go_wp2_with fail
      generalize (wr.alloc (.cells #[.int .i64 el, .int .i64 (L : Int), .int .i64 ak, .int .i64 o] 59)).alloc (.cells (ints (List.replicate L 0)) 3) = w5 at *
      clear hmk x0 x1 x2 x3
      obtain ⟨wq, rfl⟩ : ∃ wq : World, wq = wr := ⟨_, rfl⟩
      have a0 : w5.cell? ⟨wq.heap.size, 0, none⟩ = some (.int .i64 el) := (cell_of_blk HA5.out 0).1
      have a2 : w5.cell? ⟨wq.heap.size, 2, none⟩ = some (.int .i64 ak) := (cell_of_blk HA5.out 2).1
      have a3 : w5.cell? ⟨wq.heap.size, 3, none⟩ = some (.int .i64 o) := (cell_of_blk HA5.out 3).1
      by_cases hk1 : ak = 1
      · subst hk1
        obtain ⟨hi0, hi1⟩ := hinn rfl
        obtain ⟨O, rfl⟩ : ∃ O : Nat, o = (O : Int) := ⟨o.toNat, by omega⟩
        rcases h2 with rfl | rfl
        · have HLST : Hid (arrStart input ⟨1, L, 1, O⟩ = (List.range L).map (inAt input ⟨1, L, 1, O⟩)) := Lib.hid (by unfold arrStart; rw [if_pos rfl]; simp)
          rw [HLST.out] at HTK
          have HF : Hid (∀ i, inAt input ⟨1, L, 1, O⟩ i = ((input.data.toList.getD (O + i) 0).toNat : Int)) := Lib.hid (fun i => by unfold inAt; rw [if_neg (by simp)]; simp)
          generalize inAt input ⟨1, L, 1, O⟩ = f at *
          have hOs : (O : Int) + (L : Int) ≤ (input.size : Int) := by rw [HINP.out]; omega
          clear a0 a2 a3 hinn hi0 hi1
          go_loopw [29] (fun vi wr => ∃ i : Nat, i ≤ L ∧ vi = .int .i64 i ∧ Below (wq.heap.size + 1) w5 wr ∧ wr.heap[wq.heap.size + 1]? = some (.cells (ints ((List.range i).map f ++ List.replicate (L - i) 0)) 3 (0, 0))) (fun vi _ => L - (intOf vi).toNat)
          case atStart => exact ⟨0, by omega, rfl, Below.refl _ _, HG5.out⟩
          case round =>
            obtain ⟨i, hi, rfl, hIB, hIG⟩ := hrel
            have HIB := Lib.hid hIB
            have HIG := Lib.hid hIG
            by_cases hil : i < L
            · have hx := (hIB.block wq.heap.size (by omega)).trans HA5.out
              have a0 : wr.cell? ⟨wq.heap.size, 0, none⟩ = some (.int .i64 1) := (cell_of_blk hx 0).1
              have a2 : wr.cell? ⟨wq.heap.size, 2, none⟩ = some (.int .i64 1) := (cell_of_blk hx 2).1
              have a3 : wr.cell? ⟨wq.heap.size, 3, none⟩ = some (.int .i64 (O : Int)) := (cell_of_blk hx 3).1
              have hlen : ((List.range i).map f ++ List.replicate (L - i) 0).length = L := by simp; omega
              have c0 := (cell_of_blk hIG i).1.trans (ints_get _ i (by omega))
              have c1 := (cell_of_blk hIG i).2
              have HST : Hid ((wr.setCell ⟨wq.heap.size + 1, i, none⟩ (.int .i64 (f i))).heap[wq.heap.size + 1]? = some (.cells (ints ((List.range (i + 1)).map f ++ List.replicate (L - (i + 1)) 0)) 3 (0, 0))) := Lib.hid (by rw [blk_set hIG i, ints_set, fill_step f L i hil])
              have HSB := Lib.hid (hIB.setCell (p := ⟨wq.heap.size + 1, i, none⟩) (Nat.le_refl _) (.int .i64 (f i)))
              have i0 : (0 : Int) ≤ (i : Int) := by omega
              have i1 : (i : Int) < (L : Int) := by omega
              have i2 : (i : Int) ≤ 16384 := by omega
              have o2 : (O : Int) ≤ 65536 := by omega
              generalize ((List.range i).map f ++ List.replicate (L - i) 0).getD i 0 = old at *
              have hix : ∀ W, (Instr.index 9 (.string input) (.int .i64 ((O : Int) + (i : Int)))).run Try.prog W = .ok (.int .u8 (f i)) W := by
                intro W
                rw [run_index_at input (O + i) ((O : Int) + (i : Int)) (by omega) (by omega) W, HF.out]
              have hfr : 0 ≤ f i ∧ f i < 256 := by rw [HF.out]; have := (input.data.toList.getD (O + i) 0).toNat_lt; omega
              obtain ⟨hf0, hf1⟩ := hfr
              generalize f i = fi at *
              clear hx hIB hIG hlen
              go_wp2_with fail
              go_roundw
              case rel => exact ⟨i + 1, by omega, by go_num, HSB.out, HST.out⟩
              case measure => simp [intOf]; omega
            · obtain rfl : i = L := by omega
              rw [Nat.sub_self, show List.replicate 0 (0 : Int) = [] from rfl, List.append_nil] at hIG
              have HIG2 := Lib.hid hIG
              have m6 : wr.cell? ⟨w.heap.size + 1 + 1, 6, none⟩ = some aav := (cell_of_blk (HR.out.below (HBQ.out.trans (HIB.out.mono (by omega)))).blk 6).1
              obtain ⟨v', w6, hrun, g1, g2, g3, g4, A6, c6, rfl⟩ := RunAt.push (HR.out.below (HBQ.out.trans (HIB.out.mono (by omega)))) (by have := HBB.out.size; have := (HBB.out.trans ((HBQ.out.trans (HIB.out.mono (show wq.heap.size ≤ wq.heap.size + 1 by omega))).mono HBB.out.size)).size; omega) HIG2.out (by have := HBB.out.size; omega) (by omega) (by omega) HGN.out HGR.out (by omega)
              rw [hgl] at hrun g3 g4
              simp only [iSl, List.length_map, List.length_range] at hrun
              have HRUN := Lib.hid hrun
              have G3 := Lib.hid g3
              have G4 := Lib.hid (g4 (HBB.out.trans ((HBQ.out.trans (HIB.out.mono (show wq.heap.size ≤ wq.heap.size + 1 by omega))).mono HBB.out.size)) (Nat.le_refl _))
              clear hrun g3 g4
              go_wp2_with (at_builtin; refine wpList_app rfl (.tmp 69) (.tmp 71) 85 rfl HRUN.out rfl rfl ?_)
              go_roundw
              case rel => exact ⟨k + 1, by omega, by go_num, gs ++ [wq.heap.size + 1], _, by simp [hgl], by rw [HTK.out]; exact G3.out, G4.out⟩
              case measure => simp [intOf]; omega
        · have HLST : Hid (arrStart input ⟨4, L, 1, O⟩ = (List.range L).map (inAt input ⟨4, L, 1, O⟩)) := Lib.hid (by unfold arrStart; rw [if_pos rfl]; simp)
          rw [HLST.out] at HTK
          have HF : Hid (∀ i, inAt input ⟨4, L, 1, O⟩ i = ((le4 (input.data.toList.getD (O + 4 * i) 0) (input.data.toList.getD (O + 4 * i + 1) 0) (input.data.toList.getD (O + 4 * i + 2) 0) (input.data.toList.getD (O + 4 * i + 3) 0) : Nat) : Int)) := Lib.hid (fun i => by unfold inAt; rw [if_pos (by simp)]; simp)
          generalize inAt input ⟨4, L, 1, O⟩ = f at *
          have hOs : (O : Int) + 4 * (L : Int) ≤ (input.size : Int) := by rw [HINP.out]; omega
          clear a0 a2 a3 hinn hi0 hi1
          go_loopw [29] (fun vi wr => ∃ i : Nat, i ≤ L ∧ vi = .int .i64 i ∧ Below (wq.heap.size + 1) w5 wr ∧ wr.heap[wq.heap.size + 1]? = some (.cells (ints ((List.range i).map f ++ List.replicate (L - i) 0)) 3 (0, 0))) (fun vi _ => L - (intOf vi).toNat)
          case atStart => exact ⟨0, by omega, rfl, Below.refl _ _, HG5.out⟩
          case round =>
            obtain ⟨i, hi, rfl, hIB, hIG⟩ := hrel
            have HIB := Lib.hid hIB
            have HIG := Lib.hid hIG
            by_cases hil : i < L
            · have hx := (hIB.block wq.heap.size (by omega)).trans HA5.out
              have a0 : wr.cell? ⟨wq.heap.size, 0, none⟩ = some (.int .i64 4) := (cell_of_blk hx 0).1
              have a2 : wr.cell? ⟨wq.heap.size, 2, none⟩ = some (.int .i64 1) := (cell_of_blk hx 2).1
              have a3 : wr.cell? ⟨wq.heap.size, 3, none⟩ = some (.int .i64 (O : Int)) := (cell_of_blk hx 3).1
              have hlen : ((List.range i).map f ++ List.replicate (L - i) 0).length = L := by simp; omega
              have c0 := (cell_of_blk hIG i).1.trans (ints_get _ i (by omega))
              have c1 := (cell_of_blk hIG i).2
              have HST : Hid (∀ x, ((wr.setCell ⟨wq.heap.size + 1, i, none⟩ (.int .i64 x)).setCell ⟨wq.heap.size + 1, i, none⟩ (.int .i64 (f i))).heap[wq.heap.size + 1]? = some (.cells (ints ((List.range (i + 1)).map f ++ List.replicate (L - (i + 1)) 0)) 3 (0, 0))) := Lib.hid (fun x => by rw [blk_set (blk_set hIG i (.int .i64 x)) i, ints_set, ints_set, List.set_set, fill_step f L i hil])
              have HSB := Lib.hid (fun x => (hIB.setCell (p := ⟨wq.heap.size + 1, i, none⟩) (Nat.le_refl _) (.int .i64 x)).setCell (p := ⟨wq.heap.size + 1, i, none⟩) (Nat.le_refl _) (.int .i64 (f i)))
              have i0 : (0 : Int) ≤ (i : Int) := by omega
              have i1 : (i : Int) < (L : Int) := by omega
              have i2 : (i : Int) ≤ 16384 := by omega
              have o2 : (O : Int) ≤ 65536 := by omega
              generalize ((List.range i).map f ++ List.replicate (L - i) 0).getD i 0 = old at *
              have hix : ∀ W, (Instr.index 9 (.string input) (.int .i64 ((O : Int) + (i : Int) * 4))).run Try.prog W = .ok (.int .u8 ((input.data.toList.getD (O + 4 * i) 0).toNat : Int)) W := fun W => run_index_at input (O + 4 * i) ((O : Int) + (i : Int) * 4) (by omega) (by omega) W
              have hsl : ∀ W, (Instr.slice 9 (.string input) (some (.int .i64 ((O : Int) + (i : Int) * 4))) (some (.int .i64 ((O : Int) + (i : Int) * 4 + 4))) none).run Try.prog W = .ok (.string ⟨#[input.data.toList.getD (O + 4 * i) 0, input.data.toList.getD (O + 4 * i + 1) 0, input.data.toList.getD (O + 4 * i + 2) 0, input.data.toList.getD (O + 4 * i + 3) 0]⟩) W := by
                intro W
                rw [run_slice_string W 9 input .i64 .i64 _ _ Try.underlying9 (by omega) (by omega) (by omega), show ((O : Int) + (i : Int) * 4).toNat = O + 4 * i by omega, show ((O : Int) + (i : Int) * 4 + 4).toNat = O + 4 * i + 4 by omega, extract_four input (O + 4 * i) (by omega)]
              have HFI := Lib.hid (HF.out i)
              have hby := (input.data.toList.getD (O + 4 * i) 0).toNat_lt
              generalize input.data.toList.getD (O + 4 * i) 0 = b0' at *
              generalize input.data.toList.getD (O + 4 * i + 1) 0 = b1' at *
              generalize input.data.toList.getD (O + 4 * i + 2) 0 = b2' at *
              generalize input.data.toList.getD (O + 4 * i + 3) 0 = b3' at *
              generalize f i = fi at *
              clear hx hIB hIG hlen
              go_wp2_with fail
              refine (word_Of_yes _ _ _ _ _).mono ?_
              rintro e w' ⟨rfl, rfl⟩
              rw [← HFI.out]
              go_wp2_with fail
              go_roundw
              case rel => exact ⟨i + 1, by omega, by go_num, HSB.out _, HST.out _⟩
              case measure => simp [intOf]; omega
            · obtain rfl : i = L := by omega
              rw [Nat.sub_self, show List.replicate 0 (0 : Int) = [] from rfl, List.append_nil] at hIG
              have HIG2 := Lib.hid hIG
              have m6 : wr.cell? ⟨w.heap.size + 1 + 1, 6, none⟩ = some aav := (cell_of_blk (HR.out.below (HBQ.out.trans (HIB.out.mono (by omega)))).blk 6).1
              obtain ⟨v', w6, hrun, g1, g2, g3, g4, A6, c6, rfl⟩ := RunAt.push (HR.out.below (HBQ.out.trans (HIB.out.mono (by omega)))) (by have := HBB.out.size; have := (HBB.out.trans ((HBQ.out.trans (HIB.out.mono (show wq.heap.size ≤ wq.heap.size + 1 by omega))).mono HBB.out.size)).size; omega) HIG2.out (by have := HBB.out.size; omega) (by omega) (by omega) HGN.out HGR.out (by omega)
              rw [hgl] at hrun g3 g4
              simp only [iSl, List.length_map, List.length_range] at hrun
              have HRUN := Lib.hid hrun
              have G3 := Lib.hid g3
              have G4 := Lib.hid (g4 (HBB.out.trans ((HBQ.out.trans (HIB.out.mono (show wq.heap.size ≤ wq.heap.size + 1 by omega))).mono HBB.out.size)) (Nat.le_refl _))
              clear hrun g3 g4
              go_wp2_with (at_builtin; refine wpList_app rfl (.tmp 69) (.tmp 71) 85 rfl HRUN.out rfl rfl ?_)
              go_roundw
              case rel => exact ⟨k + 1, by omega, by go_num, gs ++ [wq.heap.size + 1], _, by simp [hgl], by rw [HTK.out]; exact G3.out, G4.out⟩
              case measure => simp [intOf]; omega
      · have q1 : (ak != 1) = true := by rw [bne_iff_ne]; exact hk1
        have hL : (0 : Int) < (L : Int) := by omega
        have HLST : Hid (arrStart input ⟨el, L, ak, o⟩ = List.replicate L 0) := Lib.hid (by unfold arrStart; rw [if_neg hk1]; simp)
        rw [HLST.out] at HTK
        clear a0 a3 hinn
        refine wp_loop_rounds 1 ?_
        rw [rounds_succ]
        have m6 : w5.cell? ⟨w.heap.size + 1 + 1, 6, none⟩ = some aav := (cell_of_blk HR5.out.blk 6).1
        obtain ⟨v', w6, hrun, g1, g2, g3, g4, A6, c6, rfl⟩ := RunAt.push HR5.out (by have := HBB.out.size; have := HB5.out.size; omega) HG5.out (by have := HBB.out.size; omega) (by omega) (by omega) HGN.out HGR.out (by omega)
        rw [hgl] at hrun g3 g4
        simp only [iSl, List.length_replicate] at hrun
        have HRUN := Lib.hid hrun
        have G3 := Lib.hid g3
        have G4 := Lib.hid (g4 HB5.out (Nat.le_refl _))
        clear hrun g3 g4
        go_wp2_with (at_builtin; refine wpList_app rfl (.tmp 69) (.tmp 71) 85 rfl HRUN.out rfl rfl ?_)
        go_roundw
        case rel => exact ⟨k + 1, by omega, by go_num, gs ++ [wq.heap.size + 1], _, by simp [hgl], by rw [HTK.out]; exact G3.out, G4.out⟩
        case measure => simp [intOf]; omega
    · obtain rfl : k = p.arrays.length := by omega
      have hR2 := HR.out
      rw [List.take_length] at hR2
      have HR2 := Lib.hid hR2
      clear hR2
      go_wp2_with fail
      go_ret
      exact ⟨_, _, _, _, rfl, HR2.out, HBB.out⟩
end Go.Proofs.Ythkobddggoojlaa
