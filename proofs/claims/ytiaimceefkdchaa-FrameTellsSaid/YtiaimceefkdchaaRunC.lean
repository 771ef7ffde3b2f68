/- Contract of a run's operation (runner.op). No condition but those that each theorem names. -/
import Derived.Test.YtiaimceefkdchaaRunB
import Derived.Deep.RegionHeld3
import Derived.Deep.QuietTactic
import Derived.BigQuiet
import Derived.StillTailTactics
namespace Go.Proofs.Ytiaimceefkdchaa
open Go.RowKit
def sel (n m : Nat) (x : Int) : Int := if m < n then x else 0
theorem sel_src (ts : List Int) (o : Opn) (j : Nat) (t : Int) : sel (fSrc o.kind) j (rdT ts t) = srcP ts o j t := rfl
theorem sel_0 (m : Nat) (x : Int) : sel 0 m x = 0 := by unfold sel; rw [if_neg (by omega)]
theorem sel_lt {n m : Nat} (h : m < n) (x : Int) : sel n m x = x := by unfold sel; rw [if_pos h]
theorem sel_ge {n m : Nat} (h : n ≤ m) (x : Int) : sel n m x = 0 := by unfold sel; rw [if_neg (by omega)]
theorem RunAt.tempT {w : World} {B M gt : Nat} {gs : List Nat} {aav : Value} {p : Ir} {av bv : Value} {s : St} (h : RunAt w B M gt gs aav p av bv s) (t : Int) (h0 : 0 ≤ t) (h1 : t < (s.ts.length : Int)) : w.cell? ⟨gt, t.toNat, none⟩ = some (.int .i64 (rdT s.ts t)) ∧ w.frozen? ⟨gt, t.toNat, none⟩ = false :=
  h.temp t.toNat (by omega)
theorem step_pure {p : Ir} {s : St} {o : Opn} {v : Nat} (h : pureP s.ts o = some v) : stepP p s o = some ⟨s.ts.set o.dst.toNat (v : Int), s.mem⟩ := by unfold stepP; rw [h]
theorem step_trap {p : Ir} {s : St} {o : Opn} (h : pureP s.ts o = none) (h2 : ((s.mem.getD o.imm.toNat []).length : Int) ≤ srcP s.ts o 0 o.a) : stepP p s o = none := by
  unfold stepP; rw [h]; simp only; rw [if_pos h2]
theorem step_load {p : Ir} {s : St} {o : Opn} (h : pureP s.ts o = none) (h2 : ¬ ((s.mem.getD o.imm.toNat []).length : Int) ≤ srcP s.ts o 0 o.a) (hk : o.kind = 18) :
    stepP p s o = some ⟨s.ts.set o.dst.toNat ((s.mem.getD o.imm.toNat []).getD (srcP s.ts o 0 o.a).toNat 0), s.mem⟩ := by
  unfold stepP; rw [h]; simp only; rw [if_neg h2, if_pos hk]
theorem step_store {p : Ir} {s : St} {o : Opn} (h : pureP s.ts o = none) (h2 : ¬ ((s.mem.getD o.imm.toNat []).length : Int) ≤ srcP s.ts o 0 o.a) (hk : o.kind ≠ 18) :
    stepP p s o = some ⟨s.ts, s.mem.set o.imm.toNat ((s.mem.getD o.imm.toNat []).set (srcP s.ts o 0 o.a).toNat (if (p.arrays.getD o.imm.toNat arrNone).elem = 1 then srcP s.ts o 1 o.b % 256 else srcP s.ts o 1 o.b))⟩ := by
  unfold stepP; rw [h]; simp only; rw [if_neg h2, if_neg hk]
theorem and_255 (n : Int) : bits .and .i64 n 255 = n % 256 := by
  show IntKind.i64.wrap ((BitVec.ofInt 64 n &&& BitVec.ofInt 64 255).toNat : Int) = _
  rw [BitVec.toNat_and, show (BitVec.ofInt 64 255).toNat = 2 ^ 8 - 1 from rfl, Nat.and_two_pow_sub_one_eq_mod, BitVec.toNat_ofInt, wrapi64]
  unfold wrap64; omega
theorem RunAt.drewn {w : World} {B M gt : Nat} {gs : List Nat} {aav : Value} {p : Ir} {av bv : Value} {s : St} (h : RunAt w B M gt gs aav p av bv s) (n : Nat) : RunAt (w.drewN n) B M gt gs aav p av bv s := ⟨h.1, h.2, h.3, h.4, h.5, h.6, h.7, h.8, h.9, h.10, h.11, h.12⟩
/-- But for the temps' and the arrays' blocks all is as it was. -/
def Kept (gt : Nat) (gs : List Nat) (w w' : World) : Prop := ∀ k, k < w.heap.size → k ≠ gt → k ∉ gs → w'.heap[k]? = w.heap[k]?
theorem kept_below {gt : Nat} {gs : List Nat} {w w' : World} (h : Below w.heap.size w w') : Kept gt gs w w' := fun k hk _ _ => h.block k hk
theorem kept_set {gt : Nat} {gs : List Nat} {w w' : World} (h : Below w.heap.size w w') (a : Addr) (v : Value) (ha : a.block = gt ∨ a.block ∈ gs) : Kept gt gs w (w'.setCell a v) := fun k hk h1 h2 =>
  (Below.heap_setCell w' a v k (fun e => by rw [← e] at ha; exact ha.elim h1 h2)).trans (h.block k hk)
def OpPost (p : Ir) (av bv : Value) (B M gt : Nat) (gs : List Nat) (aav : Value) (s : St) (x : Option St) (w : World) (e : Ending) (w' : World) : Prop :=
  match x with
  | some s' => e = .returned (.bool true) ∧ RunAt w' B M gt gs aav p av bv s' ∧ Below B w w' ∧ Kept gt gs w w'
  | none => e = .returned (.bool false) ∧ RunAt w' B M gt gs aav p av bv s ∧ Below B w w' ∧ Kept gt gs w w'
set_option maxRecDepth 100000 in
set_option maxHeartbeats 8000000 in
theorem run_op (p : Ir) (AA : Option Addr) (ac : Nat) (bv : Value) (o : Opn) (ho : opP p o) (B M gt : Nat) (gs : List Nat) (aav : Value) (s : St) (hf : Fit p s) (hT : 0 ≤ p.temps ∧ p.temps ≤ 1048576) (hn : p.arrays.length ≤ 1048576) (hl : ∀ a ∈ p.arrays, shapedP a) (w : World)
    (hR : RunAt w B M gt gs aav p (.slice AA p.arrays.length ac) bv s) (hI : SlRep arrEnc w B (.slice AA p.arrays.length ac) p.arrays) :
    Calls Try.prog 74 #[.pointer (some ⟨M, 0, none⟩), opVal o] w (OpPost p (.slice AA p.arrays.length ac) bv B M gt gs aav s (stepP p s o) w) := by
  have hBw : B ≤ w.heap.size := by have := lt_of_blk hR.blk; have := hR.bM; omega
  obtain ⟨ht1, ht2, hm1, hm2, hm3⟩ := hf
  obtain ⟨ho1, ⟨ho2, ho3⟩, ho4, ho5, ho6, ho7, ho8⟩ := ho
  have HR := Lib.hid hR
  have HI := Lib.hid hI
  have HTW := Lib.hid ht2
  have HMW := Lib.hid hm3
  have hTL : (s.ts.length : Int) = p.temps := by omega
  have HTL := Lib.hid hTL
  have HML := Lib.hid hm1
  have HML2 := Lib.hid hm2
  have HU := Lib.hid (fun W => ir_Uses o W)
  have HV := Lib.hid (fun W => ir_Value o (srcP s.ts o 0 o.a) (srcP s.ts o 1 o.b) (srcP s.ts o 2 o.c) W)
  have hx0 : 0 < fSrc o.kind → 0 ≤ o.a ∧ o.a < (s.ts.length : Int) := fun h => by rw [show decide (0 < fSrc o.kind) = true from decide_eq_true h] at ho5; rw [hTL]; exact ho5
  have hx1 : 1 < fSrc o.kind → 0 ≤ o.b ∧ o.b < (s.ts.length : Int) := fun h => by rw [show decide (1 < fSrc o.kind) = true from decide_eq_true h] at ho6; rw [hTL]; exact ho6
  have hx2 : 2 < fSrc o.kind → 0 ≤ o.c ∧ o.c < (s.ts.length : Int) := fun h => by rw [show decide (2 < fSrc o.kind) = true from decide_eq_true h] at ho7; rw [hTL]; exact ho7
  have HX0 := Lib.hid hx0
  have HX1 := Lib.hid hx1
  have HX2 := Lib.hid hx2
  have hs3 := fSrc_le o.kind
  have hTs : s.ts.length ≤ 1048576 := by omega
  rw [← sel_src, ← sel_src, ← sel_src] at HV
  unfold opVal at HU HV ⊢
  generalize hPost : OpPost p (.slice AA p.arrays.length ac) bv B M gt gs aav s (stepP p s o) w = PO
  have HPO := Lib.hid hPost
  clear hPost hR hI ht2 hm3 hTL hm1 hm2 ho5 ho6 ho7 hx0 hx1 hx2 ht1
  generalize hN : fSrc o.kind = n at *
  have HN := Lib.hid hN
  clear hN
  go_enter Try.func74, Try.ntmps74
  go_wp2_with fail
  refine (HU.out _).mono ?_
  rintro e w2 ⟨g, rfl, hg, hge, hb2⟩
  have hbx := bnew w (.cells #[.int .i64 o.kind, .int .i64 o.dst, .int .i64 o.a, .int .i64 o.b, .int .i64 o.c, .int .i64 o.imm] 58)
  have hxo := (hb2.block w.heap.size (by simp)).trans (heap_alloc_new w _)
  have HXO := Lib.hid hxo
  have hR2 := HR.out.below (bch hbx hb2)
  have HR2 := Lib.hid hR2
  have HB2 := Lib.hid (bch hbx hb2)
  have u0 := (cell_of_blk hg 0).1
  have u1 := (cell_of_blk hg 1).1
  have u2 := (cell_of_blk hg 2).1
  have m5 : w2.cell? ⟨M, 5, none⟩ = some (.slice (some ⟨gt, 0, none⟩) s.ts.length s.ts.length) := (cell_of_blk hR2.blk 5).1
  clear hbx hb2 hxo hR2 hg hge
  go_wp2_with fail
  go_loop [5, 6, 7, 16] (fun va vb vc vi => ∃ j : Nat, j ≤ n ∧ vi = .int .i64 j ∧ va = .int .i64 (sel j 0 (rdT s.ts o.a)) ∧ vb = .int .i64 (sel j 1 (rdT s.ts o.b)) ∧ vc = .int .i64 (sel j 2 (rdT s.ts o.c))) (fun _ _ _ vi => n - (intOf vi).toNat)
  case atStart => exact ⟨0, by omega, rfl, by rw [sel_0], by rw [sel_0], by rw [sel_0]⟩
  case round =>
    obtain ⟨j, hj, rfl, rfl, rfl, rfl⟩ := hrel
    by_cases hlt : j < n
    · have hj3 : j = 0 ∨ j = 1 ∨ j = 2 := by omega
      rcases hj3 with rfl | rfl | rfl
      · obtain ⟨b0, b1⟩ := HX0.out (by omega)
        obtain ⟨t0, _⟩ := HR2.out.tempT o.a b0 b1
        rw [sel_0, sel_0, sel_0]
        generalize rdT s.ts o.a = xa at *
        go_wp2_with fail
        go_round
        case rel => exact ⟨1, by omega, rfl, by rw [sel_lt (by omega)], by rw [sel_ge (by omega)], by rw [sel_ge (by omega)]⟩
        case measure => simp [intOf]; omega
      · obtain ⟨b0, b1⟩ := HX1.out (by omega)
        obtain ⟨t0, _⟩ := HR2.out.tempT o.b b0 b1
        rw [sel_lt (show 0 < 1 by omega), sel_ge (show 1 ≤ 1 by omega), sel_ge (show 1 ≤ 2 by omega)]
        generalize rdT s.ts o.a = xa at *
        generalize rdT s.ts o.b = xb at *
        go_wp2_with fail
        go_round
        case rel => exact ⟨2, by omega, rfl, by rw [sel_lt (by omega)], by rw [sel_lt (by omega)], by rw [sel_ge (by omega)]⟩
        case measure => simp [intOf]; omega
      · obtain ⟨b0, b1⟩ := HX2.out (by omega)
        obtain ⟨t0, _⟩ := HR2.out.tempT o.c b0 b1
        rw [sel_lt (show 0 < 2 by omega), sel_lt (show 1 < 2 by omega), sel_ge (show 2 ≤ 2 by omega)]
        generalize rdT s.ts o.a = xa at *
        generalize rdT s.ts o.b = xb at *
        generalize rdT s.ts o.c = xc at *
        go_wp2_with fail
        go_round
        case rel => exact ⟨3, by omega, rfl, by rw [sel_lt (by omega)], by rw [sel_lt (by omega)], by rw [sel_lt (by omega)]⟩
        case measure => simp [intOf]; omega
    · obtain rfl : j = n := by omega
      have e0 : sel j 0 (rdT s.ts o.a) = srcP s.ts o 0 o.a := by rw [← HN.out]; rfl
      have e1 : sel j 1 (rdT s.ts o.b) = srcP s.ts o 1 o.b := by rw [← HN.out]; rfl
      have e2 : sel j 2 (rdT s.ts o.c) = srcP s.ts o 2 o.c := by rw [← HN.out]; rfl
      rw [e0, e1, e2] at HV ⊢
      clear e0 e1 e2
      have hw0 := srcP_word HTW.out o 0 o.a
      have hw1 := srcP_word HTW.out o 1 o.b
      unfold wordR at hw0 hw1
      have HSP := Lib.hid (fun v => step_pure (p := p) (s := s) (o := o) (v := v))
      have HSN := Lib.hid (step_trap (p := p) (s := s) (o := o))
      have HSL := Lib.hid (step_load (p := p) (s := s) (o := o))
      have HSS := Lib.hid (step_store (p := p) (s := s) (o := o))
      have HVN : Hid (pureP s.ts o = none → o.kind = 18 ∨ o.kind = 19) := Lib.hid (fun h => valP_none h ho1)
      have HVS : Hid (∀ v, pureP s.ts o = some v → 0 ≤ o.dst ∧ o.dst < (s.ts.length : Int)) := Lib.hid (fun v h => by
        have hk : 1 ≤ o.kind ∧ o.kind ≤ 17 := by
          unfold fOk at ho1
          simp only [decide_eq_true_eq] at ho1
          have h18 : ¬ 17 < o.kind := by
            intro h2
            have e : pureP s.ts o = none := by
              unfold pureP valP
              rw [if_neg (by omega), if_neg (by omega), if_neg (by omega), if_neg (by omega), if_neg (by omega), if_neg (by omega), if_neg (by omega), if_neg (by omega), if_neg (by omega), if_neg (by omega), if_neg (by omega), if_neg (by omega), if_neg (by omega), if_neg (by omega), if_neg (by omega), if_neg (by omega), if_neg (by omega)]
            rw [e] at h; cases h
          omega
        have hd : fDst o.kind = true := by unfold fDst; rw [decide_eq_true_eq]; omega
        rw [hd] at ho4
        rw [HTL.out]
        exact ho4)
      have HLD : Hid (o.kind = 18 → 0 ≤ o.dst ∧ o.dst < (s.ts.length : Int)) := Lib.hid (fun h => by
        have hd : fDst o.kind = true := by unfold fDst; rw [decide_eq_true_eq]; omega
        rw [hd] at ho4
        rw [HTL.out]
        exact ho4)
      have HIM : Hid (o.kind = 18 ∨ o.kind = 19 → 0 ≤ o.imm ∧ o.imm < (p.arrays.length : Int)) := Lib.hid (fun h => ⟨ho2, (ho8 h).1⟩)
      replace HV : Hid (∀ W, Calls Try.prog 102 #[.agg #[.int .i64 o.kind, .int .i64 o.dst, .int .i64 o.a, .int .i64 o.b, .int .i64 o.c, .int .i64 o.imm], .int .i64 (srcP s.ts o 0 o.a), .int .i64 (srcP s.ts o 1 o.b), .int .i64 (srcP s.ts o 2 o.c)] W (ValPost (pureP s.ts o) W)) := HV
      clear ho1 ho2 ho3 ho4 ho8 hs3 hlt hj u0 u1 u2 m5
      generalize pureP s.ts o = pv at *
      generalize srcP s.ts o 0 o.a = y0 at *
      generalize srcP s.ts o 1 o.b = y1 at *
      generalize srcP s.ts o 2 o.c = y2 at *
      have z0 : w2.cell? ⟨w.heap.size, 0, none⟩ = some (.int .i64 o.kind) := (cell_of_blk HXO.out 0).1
      have z1 : w2.cell? ⟨w.heap.size, 1, none⟩ = some (.int .i64 o.dst) := (cell_of_blk HXO.out 1).1
      have z2 : w2.cell? ⟨w.heap.size, 2, none⟩ = some (.int .i64 o.a) := (cell_of_blk HXO.out 2).1
      have z3 : w2.cell? ⟨w.heap.size, 3, none⟩ = some (.int .i64 o.b) := (cell_of_blk HXO.out 3).1
      have z4 : w2.cell? ⟨w.heap.size, 4, none⟩ = some (.int .i64 o.c) := (cell_of_blk HXO.out 4).1
      have z5 : w2.cell? ⟨w.heap.size, 5, none⟩ = some (.int .i64 o.imm) := (cell_of_blk HXO.out 5).1
      go_wp2_with fail
      refine (HV.out _).mono ?_
      rintro e w3 ⟨rfl, hb3⟩
      have hx3 := (hb3.block _ (lt_of_blk HXO.out)).trans HXO.out
      have hR3 := HR2.out.below hb3
      have m5 : w3.cell? ⟨M, 5, none⟩ = some (.slice (some ⟨gt, 0, none⟩) s.ts.length s.ts.length) := (cell_of_blk hR3.blk 5).1
      have m6 : w3.cell? ⟨M, 6, none⟩ = some aav := (cell_of_blk hR3.blk 6).1
      have y1' : w3.cell? ⟨w.heap.size, 1, none⟩ = some (.int .i64 o.dst) := (cell_of_blk hx3 1).1
      have y5' : w3.cell? ⟨w.heap.size, 5, none⟩ = some (.int .i64 o.imm) := (cell_of_blk hx3 5).1
      have y0' : w3.cell? ⟨w.heap.size, 0, none⟩ = some (.int .i64 o.kind) := (cell_of_blk hx3 0).1
      have HR3 := Lib.hid hR3
      have HB3 : Hid (Below B w w3) := Lib.hid ((bch HB2.out hb3).mono hBw)
      have HB3W : Hid (Below w.heap.size w w3) := Lib.hid (bch HB2.out hb3)
      clear hb3 hx3 hR3 z0 z1 z2 z3 z4 z5
      cases pv with
      | some v =>
        obtain ⟨d0, d1⟩ := HVS.out v rfl
        obtain ⟨t0, f0⟩ := HR3.out.tempT o.dst d0 d1
        generalize rdT s.ts o.dst = od at *
        have HE := Lib.hid (HSP.out v rfl)
        clear m6 y5' y0' HSP HSN HSL HSS HVN HVS HLD HIM
        simp only [optVal]
        go_wp2_with fail
        go_still_tail 8, (by kernel_rfl)
        change wpList _ _ _ _ _ w3.drew
        have t3 : w3.drew.cell? ⟨gt, o.dst.toNat, none⟩ = some (.int .i64 od) := t0
        have f3 : w3.drew.frozen? ⟨gt, o.dst.toNat, none⟩ = false := f0
        have HRF := Lib.hid (HR3.out.drew_.setT o.dst.toNat (v : Int))
        have HBF := Lib.hid (HB3.out.drew.setCell (p := ⟨gt, o.dst.toNat, none⟩) HR3.out.bt (.int .i64 (v : Int)))
        have HKP : Hid (Kept gt gs w (w3.drew.setCell ⟨gt, o.dst.toNat, none⟩ (.int .i64 (v : Int)))) := Lib.hid (kept_set HB3W.out.drew _ _ (Or.inl rfl))
        generalize w3.drew = w4 at *
        go_wp2_with fail
        rw [← HPO.out, HE.out]
        exact ⟨rfl, HRF.out, HBF.out, HKP.out⟩
      | none =>
        have hk := HVN.out rfl
        obtain ⟨i0, i1⟩ := HIM.out hk
        have hgs : gs.length = p.arrays.length := HR3.out.len.trans HML.out
        have hig : o.imm.toNat < gs.length := by omega
        obtain ⟨r, cap, rfl, hrc⟩ := HR3.out.slot o.imm.toNat hig
        have hml := HML2.out o.imm.toNat (by omega)
        have hsh := hl _ (getD_memI p.arrays o.imm.toNat arrNone (by omega))
        obtain ⟨_, hs1, hs2⟩ := hsh
        have hE := HR3.out.elem o.imm.toNat hig
        have hEW := getD_word (getD_nil_word HMW.out o.imm.toNat) y0.toNat
        have HSM := Lib.hid (fun v => HR3.out.setM o.imm.toNat hig y0.toNat v)
        have HBG := Lib.hid (HR3.out.bg _ (getD_memI gs o.imm.toNat 0 hig))
        have HGM := Lib.hid (getD_memI gs o.imm.toNat 0 hig)
        have hl1 : (s.mem.getD o.imm.toNat []).length ≤ 16384 := by omega
        have hl0 : 1 ≤ (s.mem.getD o.imm.toNat []).length := by omega
        have HEW := Lib.hid hEW
        have HE2 := Lib.hid hE
        unfold iSl at hrc
        have hgl : (gs.length : Int) = (p.arrays.length : Int) := by omega
        have hig2 : o.imm < (gs.length : Int) := by omega
        have hcg : gs.length ≤ cap := by
          rcases HR3.out.row.2 with ⟨h, _⟩ | ⟨_, _, _, h, _, _, h2, _⟩
          · cases h
          · injection h with _ _ h3; omega
        clear hE hml hs1 hs2 HSP hgs hEW
        generalize hLe : (s.mem.getD o.imm.toNat []).length = le at *
        have HLE := Lib.hid hLe
        clear hLe
        generalize hGi : gs.getD o.imm.toNat 0 = gi at *
        have HGI := Lib.hid hGi
        clear hGi
        simp only [optVal]
        by_cases htr : (le : Int) ≤ y0
        · have HE := Lib.hid (HSN.out rfl htr)
          clear HSM HSN HSL HSS HVN HVS HLD HIM
          go_wp2_with fail
          go_quiet (fail)
          go_wp2_with fail
          rw [← HPO.out, HE.out]
          exact ⟨rfl, HR3.out.drewn _, bdrawn HB3.out _, kept_below (bdrawn HB3W.out _)⟩
        · obtain ⟨ce, fe⟩ := HE2.out y0.toNat (by omega)
          by_cases hk8 : o.kind = 18
          · obtain ⟨d0, d1⟩ := HLD.out hk8
            obtain ⟨t0, f0⟩ := HR3.out.tempT o.dst d0 d1
            have HE := Lib.hid (HSL.out rfl (by omega) hk8)
            have HSR := Lib.hid (fun nq v => (HR3.out.drewn nq).drew_.setT o.dst.toNat v)
            have q8 : (o.kind == 18) = true := by rw [beq_iff_eq]; exact hk8
            generalize rdT s.ts o.dst = od at *
            generalize (s.mem.getD o.imm.toNat []).getD y0.toNat 0 = ev at *
            clear HSN HSL HSS HVN HVS HLD HIM hk8 hk HSM
            go_wp2_with fail
            go_quiet (fail)
            go_wp2_with fail
            have hN : ∀ q, (w3.drewN nq).cell? q = w3.cell? q := fun _ => rfl
            have hNf : ∀ q, (w3.drewN nq).frozen? q = w3.frozen? q := fun _ => rfl
            rw [← hN] at t0 ce m5 y1' y0' m6 hrc
            rw [← hNf] at f0
            have HRF := Lib.hid (fun v => HSR.out nq v)
            have HBF := Lib.hid (bdrawn HB3.out nq)
            have HBFW := Lib.hid (bdrawn HB3W.out nq)
            clear hN hNf fe HE2 HI HXO
            generalize w3.drewN nq = w4 at *
            go_still_tail 11, (by kernel_rfl)
            change wpList _ _ _ _ _ w4.drew
            have t3 : w4.drew.cell? ⟨gt, o.dst.toNat, none⟩ = some (.int .i64 od) := t0
            have f3 : w4.drew.frozen? ⟨gt, o.dst.toNat, none⟩ = false := f0
            have HRG := Lib.hid (HRF.out ev)
            have HBG2 := Lib.hid (HBF.out.drew.setCell (p := ⟨gt, o.dst.toNat, none⟩) HR3.out.bt (.int .i64 ev))
            have HKP : Hid (Kept gt gs w (w4.drew.setCell ⟨gt, o.dst.toNat, none⟩ (.int .i64 ev))) := Lib.hid (kept_set HBFW.out.drew _ _ (Or.inl rfl))
            clear HRF
            generalize w4.drew = w5 at *
            go_wp2_with fail
            rw [← HPO.out, HE.out]
            exact ⟨rfl, HRG.out, HBG2.out, HKP.out⟩
          · have q8 : (o.kind == 18) = false := by rw [beq_eq_false_iff_ne]; exact hk8
            have HE := Lib.hid (HSS.out rfl (by omega) hk8)
            obtain ⟨ab, aoff, rfl, hab, ax0, ax1, ax2, ax3⟩ := arr_at (HI.out.below HB3.out (Nat.le_refl _)) o.imm.toNat (by omega)
            have m1 : w3.cell? ⟨M, 1, none⟩ = some (.slice (some ⟨ab, aoff, none⟩) p.arrays.length ac) := (cell_of_blk HR3.out.blk 1).1
            have h255 := and_255 y1
            clear ax1 ax2 ax3 HSN HSL HSS HVN HVS HLD HIM hk HEW
            generalize (s.mem.getD o.imm.toNat []).getD y0.toNat 0 = ev at *
            generalize (p.arrays.getD o.imm.toNat arrNone).elem = ae at *
            by_cases hae : ae = 1
            · rw [if_pos hae] at HE
              subst hae
              generalize hz : y1 % 256 = z at *
              have HZ := Lib.hid hz
              clear hz
              go_wp2_with fail
              go_quiet (fail)
              go_wp2_with fail
              go_quiet (fail)
              go_wp2_with fail
              rw [← HPO.out, HE.out]
              exact ⟨rfl, (HSM.out z).drewn _, bdrawn (HB3.out.setCell (p := ⟨gi, y0.toNat, none⟩) HBG.out (.int .i64 z)) _, fun k h1 h2 h3 => kept_set HB3W.out ⟨gi, y0.toNat, none⟩ (.int .i64 z) (Or.inr HGM.out) k h1 h2 h3⟩
            · rw [if_neg hae] at HE
              have q1 : (ae == 1) = false := by rw [beq_eq_false_iff_ne]; exact hae
              go_wp2_with fail
              go_quiet (fail)
              go_wp2_with fail
              go_quiet (fail)
              go_wp2_with fail
              rw [← HPO.out, HE.out]
              exact ⟨rfl, (HSM.out y1).drewn _, bdrawn (HB3.out.setCell (p := ⟨gi, y0.toNat, none⟩) HBG.out (.int .i64 y1)) _, fun k h1 h2 h3 => kept_set HB3W.out ⟨gi, y0.toNat, none⟩ (.int .i64 y1) (Or.inr HGM.out) k h1 h2 h3⟩
end Go.Proofs.Ytiaimceefkdchaa
