/- Contract of hauberklaw20.stale. No condition but those that the theorem names. -/
import Derived.Test.YtiaimceefkdchaaCopM
import Derived.Test.YtiaimceefkdchaaHeld
import Derived.Deep.DeepCutAuto
namespace Go.Proofs.Ytiaimceefkdchaa
open Go.RowKit
set_option linter.unusedVariables false
/-- No operation of these, from one on to another, makes a temp. -/
def noMkIn (l : List Opn) (i j : Nat) (t : Int) : Prop := ∀ k, i ≤ k → k < j → k < l.length → fDst (l.getD k opNone).kind = true → (l.getD k opNone).dst ≠ t
theorem noMk_drop {l : List Opn} {i : Nat} {t : Int} (h : noMkIn l i l.length t) : noMk (l.drop i) t := by
  intro o ho hd
  obtain ⟨k, hk, e⟩ := List.getElem_of_mem ho
  have hk2 : i + k < l.length := by rw [List.length_drop] at hk; omega
  have e2 : l.getD (i + k) opNone = o := by
    rw [List.getD_eq_getElem?_getD, List.getElem?_eq_getElem hk2]
    rw [List.getElem_drop] at e
    exact e
  have := h (i + k) (by omega) hk2 hk2
  rw [e2] at this
  exact this hd
theorem stale_none {l : List Opn} {t : Int} (h : noMkIn l 0 l.length t) : staleB l t = false := by
  have h1 := cpF_tail [] t l (by have := noMk_drop h; simpa using this)
  unfold staleB
  rw [List.nil_append] at h1
  rw [h1]; rfl
theorem stale_at {l : List Opn} {t : Int} {k : Nat} (hk : k < l.length) (h : noMkIn l (k + 1) l.length t) : cpF l t = match cpF (l.take (k + 1)) t with
    | none => none
    | some u => if noMk (l.drop (k + 1)) u then some u else none := by
  have h1 := cpF_tail (l.take (k + 1)) t (l.drop (k + 1)) (noMk_drop h)
  rw [List.take_append_drop] at h1
  exact h1
theorem stale_here {l : List Opn} {k : Nat} (hk : k < l.length) (hd : fDst (l.getD k opNone).kind = true) : cpF (l.take (k + 1)) (l.getD k opNone).dst = if (l.getD k opNone).kind = 2 ∧ (l.getD k opNone).a ≠ (l.getD k opNone).dst then some (l.getD k opNone).a else none := by
  rw [take_succ_getD l k opNone hk, cpF_snoc, cpMap_eq hd]
theorem stale_bad {l : List Opn} {t : Int} {k : Nat} (hk : k < l.length) (h : noMkIn l (k + 1) l.length t) (hd : fDst (l.getD k opNone).kind = true) (ht : (l.getD k opNone).dst = t) (hn : ¬ ((l.getD k opNone).kind = 2 ∧ (l.getD k opNone).a ≠ t)) : staleB l t = false := by
  unfold staleB
  have h2 := stale_here hk hd
  rw [ht, if_neg hn] at h2
  rw [stale_at hk h, h2]; rfl
theorem stale_hit {l : List Opn} {t : Int} {k : Nat} (hk : k < l.length) (h : noMkIn l (k + 1) l.length t) (hd : fDst (l.getD k opNone).kind = true) (ht : (l.getD k opNone).dst = t) (hn : (l.getD k opNone).kind = 2 ∧ (l.getD k opNone).a ≠ t)
    {j : Nat} (hj : k < j) (hjl : j < l.length) (hjd : fDst (l.getD j opNone).kind = true) (hja : (l.getD j opNone).dst = (l.getD k opNone).a) : staleB l t = false := by
  unfold staleB
  have h2 := stale_here hk hd
  rw [ht, if_pos hn] at h2
  rw [stale_at hk h, h2]
  have hm : l.getD j opNone ∈ l.drop (k + 1) := by
    refine List.mem_of_getElem? (i := j - (k + 1)) ?_
    rw [List.getElem?_drop, show k + 1 + (j - (k + 1)) = j by omega]
    exact getD_some l j opNone hjl
  have hx : ¬ noMk (l.drop (k + 1)) (l.getD k opNone).a := fun hx => hx _ hm hjd hja
  simp only
  rw [if_neg hx]; rfl
theorem stale_yes {l : List Opn} {t : Int} {k : Nat} (hk : k < l.length) (h : noMkIn l (k + 1) l.length t) (hd : fDst (l.getD k opNone).kind = true) (ht : (l.getD k opNone).dst = t) (hn : (l.getD k opNone).kind = 2 ∧ (l.getD k opNone).a ≠ t)
    (hj : noMkIn l (k + 1) l.length (l.getD k opNone).a) : staleB l t = true := by
  unfold staleB
  have h2 := stale_here hk hd
  rw [ht, if_pos hn] at h2
  rw [stale_at hk h, h2]
  simp only
  rw [if_pos (noMk_drop hj)]; rfl
theorem noMkIn_snoc {l : List Opn} {i j : Nat} {t : Int} (h : noMkIn l i j t) (hx : fDst (l.getD j opNone).kind = true → (l.getD j opNone).dst ≠ t) : noMkIn l i (j + 1) t := by
  intro k h1 h2 h3
  by_cases e : k = j
  · rw [e]; exact hx
  · exact h k h1 (by omega) h3
theorem noMkIn_cons {l : List Opn} {i j : Nat} {t : Int} (h : noMkIn l (i + 1) j t) (hx : fDst (l.getD i opNone).kind = true → (l.getD i opNone).dst ≠ t) : noMkIn l i j t := by
  intro k h1 h2 h3
  by_cases e : k = i
  · rw [e]; exact hx
  · exact h k (by omega) h2 h3
set_option maxRecDepth 100000 in
set_option maxHeartbeats 8000000 in
theorem law20_stale (l : List Opn) (A : Option Addr) (c : Nat) (t : Int) (hn : l.length ≤ 4398046511104) (w : World) (hL : SlRep opEnc w w.heap.size (.slice A l.length c) l) :
    Calls Try.prog 34 #[.slice A l.length c, .int .i64 t] w fun e w' => e = .returned (.bool (staleB l t)) ∧ Below w.heap.size w w' := by
  have HL := Lib.hid hL
  have HMK := Lib.hid (fun o W => ir_Makes o W)
  unfold opVal at HMK
  clear hL
  go_enter Try.func34, Try.ntmps34
  go_wp2_with fail
  go_loopw [5] (fun vi wr => ∃ (k : Nat), k ≤ l.length ∧ vi = .int .i64 ((k : Int) - 1) ∧ noMkIn l k l.length t ∧ Below w.heap.size w wr) (fun vi _ => (intOf vi + 1).toNat)
  case atStart => exact ⟨l.length, Nat.le_refl _, rfl, fun k h1 h2 => by omega, Below.refl _ _⟩
  case round =>
    obtain ⟨k, hk, rfl, hno, hB⟩ := hrel
    have HNO := Lib.hid hno
    have HB := Lib.hid hB
    clear hno hB
    cases k with
    | zero =>
      have e0 : ((0 : Nat) : Int) - 1 = -1 := by omega
      rw [e0]
      go_wp2_with fail
      go_ret
      exact ⟨ret_bool (stale_none HNO.out).symm, HB.out⟩
    | succ k =>
      have e1 : ((k + 1 : Nat) : Int) - 1 = (k : Int) := by omega
      rw [e1]
      obtain ⟨b, off, rfl, hb, x0, x1, x2, x3, x4, x5⟩ := op_at (HL.out.below HB.out (Nat.le_refl _)) k (by omega)
      have k0 : (0 : Int) ≤ (k : Int) := by omega
      have k1 : (k : Int) < (l.length : Int) := by omega
      have hkl : k < l.length := by omega
      have HNN : Hid (∀ h : (fDst (l.getD k opNone).kind = true → (l.getD k opNone).dst ≠ t), noMkIn l k l.length t) := Lib.hid (fun h => noMkIn_cons HNO.out h)
      have HBAD := Lib.hid (fun hd ht hn => stale_bad (t := t) hkl HNO.out hd ht hn)
      have HHIT := Lib.hid (fun hd ht hn j h1 h2 h3 h4 => stale_hit (t := t) hkl HNO.out hd ht hn (j := j) h1 h2 h3 h4)
      have HYES := Lib.hid (fun hd ht hn hj => stale_yes (t := t) hkl HNO.out hd ht hn hj)
      generalize l.getD k opNone = o at *
      obtain ⟨kd, d, a, b', c', i⟩ := o
      simp only at x0 x1 x2 x3 x4 x5 HNN HBAD HHIT HYES
      go_wp2_with fail
      refine (HMK.out ⟨kd, d, a, b', c', i⟩ _).mono ?_
      rintro e w2 ⟨rfl, hb2⟩
      have HB2 := Lib.hid (bch HB.out hb2)
      have hlt : b < wr.heap.size := by have := HB.out.size; omega
      have x0' := (hb2.cell (p := ⟨b, off + k * 6, none⟩) hlt).trans x0
      have x1' := (hb2.cell (p := ⟨b, off + k * 6 + 1, none⟩) hlt).trans x1
      have x2' := (hb2.cell (p := ⟨b, off + k * 6 + 2, none⟩) hlt).trans x2
      have HX0 := Lib.hid x0'
      have HX2 := Lib.hid x2'
      clear x0 x1 x2 x3 x4 x5 hb2
      by_cases hd : fDst kd = true
      · rw [hd]
        by_cases hdt : d = t
        · have q1 : (d != t) = false := by rw [bne_eq_false_iff_eq]; exact hdt
          by_cases hcp : kd = 2 ∧ a ≠ t
          · have q2 : (kd != 2) = false := by rw [bne_eq_false_iff_eq]; exact hcp.1
            have q3 : (a == t) = false := by rw [beq_eq_false_iff_ne]; exact hcp.2
            have HH := Lib.hid (fun j => HHIT.out hd hdt hcp j)
            have HY := Lib.hid (HYES.out hd hdt hcp)
            clear hd hdt hcp
            go_wp2_with fail
            clear x0' x1' x2' q1 q2 q3
            obtain ⟨wo, rfl⟩ : ∃ wo : World, wo = wr := ⟨_, rfl⟩
            go_loopw [6] (fun vj wr => ∃ (j : Nat), k + 1 ≤ j ∧ j ≤ l.length ∧ vj = .int .i64 (j : Int) ∧ noMkIn l (k + 1) j a ∧ Below w2.heap.size w2 wr) (fun vj _ => l.length - (intOf vj).toNat)
            case atStart => exact ⟨k + 1, Nat.le_refl _, by omega, by go_num, fun k h1 h2 => by omega, Below.refl _ _⟩
            case round =>
              obtain ⟨j, hj1, hj2, rfl, hno, hBJ⟩ := hrel
              have HNJ := Lib.hid hno
              have HBJ := Lib.hid hBJ
              have HBE := Lib.hid (bch HB2.out hBJ)
              clear hno
              by_cases hjl : j < l.length
              · obtain ⟨b2, off2, hA, hb2, s0, s1, s2, s3, s4, s5⟩ := op_at (HL.out.below HBE.out (Nat.le_refl _)) j hjl
                injection hA with hA
                injection hA with hA1 hA2
                subst hA1 hA2
                have HLT : Hid (b < wr.heap.size) := Lib.hid (by have := HBE.out.size; omega)
                have hltb : b < w2.heap.size := by have := HB2.out.size; omega
                have x2' := (hBJ.cell (p := ⟨b, off + k * 6 + 2, none⟩) hltb).trans HX2.out
                have HS : Hid (∀ h : (fDst (l.getD j opNone).kind = true → (l.getD j opNone).dst ≠ a), noMkIn l (k + 1) (j + 1) a) := Lib.hid (fun h => noMkIn_snoc HNJ.out h)
                have HHJ := Lib.hid (HH.out j (by omega) hjl)
                generalize l.getD j opNone = oj at *
                obtain ⟨ok, od, oa, ob, oc, oi⟩ := oj
                simp only at s0 s1 s2 s3 s4 s5 HS HHJ
                have j0 : (0 : Int) ≤ (j : Int) := by omega
                have j1 : (j : Int) < (l.length : Int) := by omega
                replace HMK := Lib.hid (HMK.out ⟨ok, od, oa, ob, oc, oi⟩)
                simp only at HMK
                clear hBJ hltb hb2
                go_wp2_with fail
                by_cases hmk : fDst ok = true
                · rw [hmk] at HMK
                  by_cases hda : od = a
                  · have q4 : (od == a) = true := by rw [beq_iff_eq]; exact hda
                    have HF := Lib.hid (HHJ.out hmk hda)
                    clear hmk hda HS HHJ
                    refine wp_region_L (fun w' => Below wr.heap.size wr w') 99 (by kernel_rfl) ?_
                    have hS0 : Below wr.heap.size wr wr.drew := Below.drew (Below.refl _ _)
                    refine wpAnyL_take (i := 0) (some 52) (.slice (some ⟨b, off, none⟩) l.length c) rfl rfl (by kernel_rfl) (by kernel_rfl) (by kernel_rfl) (by kernel_rfl) (fun _ _ _ h => h) (by rfl) ?hvx1_0 hS0 ?restx1_0
                    case hvx1_0 =>
                      intro wz hSz
                      go_simp
                    try simp only [Act.put, List.setIfInBounds_toArray, List.set_cons_zero, List.set_cons_succ]
                    refine wpAnyL_take (i := 1) (some 53) (.int .i64 (j : Int)) rfl rfl (by kernel_rfl) (by kernel_rfl) (by kernel_rfl) (by kernel_rfl) (fun _ _ _ h => h) (by rfl) ?hvx1_1 hS0 ?restx1_1
                    case hvx1_1 =>
                      intro wz hSz
                      go_simp
                    try simp only [Act.put, List.setIfInBounds_toArray, List.set_cons_zero, List.set_cons_succ]
                    refine wpAnyL_take (i := 2) (some 54) (.pointer (some ⟨b, off + j * 6, none⟩)) rfl rfl (by kernel_rfl) (by kernel_rfl) (by kernel_rfl) (by kernel_rfl) (fun _ _ _ h => h) (by rfl) ?hvx1_2 hS0 ?restx1_2
                    case hvx1_2 =>
                      intro wz hSz
                      go_simp
                    try simp only [Act.put, List.setIfInBounds_toArray, List.set_cons_zero, List.set_cons_succ]
                    refine wpAnyL_take (i := 3) (some 55) (.agg #[.int .i64 ok, .int .i64 od, .int .i64 oa, .int .i64 ob, .int .i64 oc, .int .i64 oi]) rfl rfl (by kernel_rfl) (by kernel_rfl) (by kernel_rfl) (by kernel_rfl) (fun _ _ _ h => h) (by rfl) ?hvx1_3 hS0 ?restx1_3
                    case hvx1_3 =>
                      intro wz hSz
                      have y0 := (hSz.cell (p := ⟨b, off + j * 6, none⟩) (HLT.out)).trans s0
                      have y1 := (hSz.cell (p := ⟨b, off + j * 6 + 1, none⟩) (HLT.out)).trans s1
                      have y2 := (hSz.cell (p := ⟨b, off + j * 6 + 2, none⟩) (HLT.out)).trans s2
                      have y3 := (hSz.cell (p := ⟨b, off + j * 6 + 3, none⟩) (HLT.out)).trans s3
                      have y4 := (hSz.cell (p := ⟨b, off + j * 6 + 4, none⟩) (HLT.out)).trans s4
                      have y5 := (hSz.cell (p := ⟨b, off + j * 6 + 5, none⟩) (HLT.out)).trans s5
                      go_simp
                    try simp only [Act.put, List.setIfInBounds_toArray, List.set_cons_zero, List.set_cons_succ]
                    refine wpAnyL_one (i := 4) (by kernel_rfl) rfl ?_
                    intro K hK
                    rw [if_pos (by rfl)]
                    go_simp
                    refine (HMK.out _).mono ?_
                    rintro e wc1 ⟨rfl, hb⟩
                    have hS1 := bch hS0 hb
                    refine hK.out _ _ (fun _ => hS1) ?_
                    clear hK hb
                    try simp only [Act.put, List.setIfInBounds_toArray, List.set_cons_zero, List.set_cons_succ]
                    refine wpAnyL_take (i := 5) (some 57) (.bool true) rfl rfl (by kernel_rfl) (by kernel_rfl) (by kernel_rfl) (by kernel_rfl) (fun _ _ _ h => h) (by rfl) ?hvx1_5 hS1 ?restx1_5
                    case hvx1_5 =>
                      intro wz hSz
                      go_simp
                    try simp only [Act.put, List.setIfInBounds_toArray, List.set_cons_zero, List.set_cons_succ]
                    refine wpAnyL_take (i := 6) (some 58) (.slice (some ⟨b, off, none⟩) l.length c) rfl rfl (by kernel_rfl) (by kernel_rfl) (by kernel_rfl) (by kernel_rfl) (fun _ _ _ h => h) (by rfl) ?hvx1_6 hS1 ?restx1_6
                    case hvx1_6 =>
                      intro wz hSz
                      go_simp
                    try simp only [Act.put, List.setIfInBounds_toArray, List.set_cons_zero, List.set_cons_succ]
                    refine wpAnyL_take (i := 7) (some 59) (.int .i64 (j : Int)) rfl rfl (by kernel_rfl) (by kernel_rfl) (by kernel_rfl) (by kernel_rfl) (fun _ _ _ h => h) (by rfl) ?hvx1_7 hS1 ?restx1_7
                    case hvx1_7 =>
                      intro wz hSz
                      go_simp
                    try simp only [Act.put, List.setIfInBounds_toArray, List.set_cons_zero, List.set_cons_succ]
                    refine wpAnyL_take (i := 8) (some 60) (.pointer (some ⟨b, off + j * 6, none⟩)) rfl rfl (by kernel_rfl) (by kernel_rfl) (by kernel_rfl) (by kernel_rfl) (fun _ _ _ h => h) (by rfl) ?hvx1_8 hS1 ?restx1_8
                    case hvx1_8 =>
                      intro wz hSz
                      go_simp
                    try simp only [Act.put, List.setIfInBounds_toArray, List.set_cons_zero, List.set_cons_succ]
                    refine wpAnyL_take (i := 9) (some 61) (.pointer (some ⟨b, off + j * 6 + 1, none⟩)) rfl rfl (by kernel_rfl) (by kernel_rfl) (by kernel_rfl) (by kernel_rfl) (fun _ _ _ h => h) (by rfl) ?hvx1_9 hS1 ?restx1_9
                    case hvx1_9 =>
                      intro wz hSz
                      go_simp
                    try simp only [Act.put, List.setIfInBounds_toArray, List.set_cons_zero, List.set_cons_succ]
                    refine wpAnyL_take (i := 10) (some 62) (.int .i64 od) rfl rfl (by kernel_rfl) (by kernel_rfl) (by kernel_rfl) (by kernel_rfl) (fun _ _ _ h => h) (by rfl) ?hvx1_10 hS1 ?restx1_10
                    case hvx1_10 =>
                      intro wz hSz
                      have y1 := (hSz.cell (p := ⟨b, off + j * 6 + 1, none⟩) (HLT.out)).trans s1
                      go_simp
                    try simp only [Act.put, List.setIfInBounds_toArray, List.set_cons_zero, List.set_cons_succ]
                    refine wpAnyL_take (i := 11) (some 63) (.slice (some ⟨b, off, none⟩) l.length c) rfl rfl (by kernel_rfl) (by kernel_rfl) (by kernel_rfl) (by kernel_rfl) (fun _ _ _ h => h) (by rfl) ?hvx1_11 hS1 ?restx1_11
                    case hvx1_11 =>
                      intro wz hSz
                      go_simp
                    try simp only [Act.put, List.setIfInBounds_toArray, List.set_cons_zero, List.set_cons_succ]
                    refine wpAnyL_take (i := 12) (some 64) (.int .i64 (k : Int)) rfl rfl (by kernel_rfl) (by kernel_rfl) (by kernel_rfl) (by kernel_rfl) (fun _ _ _ h => h) (by rfl) ?hvx1_12 hS1 ?restx1_12
                    case hvx1_12 =>
                      intro wz hSz
                      go_simp
                    try simp only [Act.put, List.setIfInBounds_toArray, List.set_cons_zero, List.set_cons_succ]
                    refine wpAnyL_take (i := 13) (some 65) (.pointer (some ⟨b, off + k * 6, none⟩)) rfl rfl (by kernel_rfl) (by kernel_rfl) (by kernel_rfl) (by kernel_rfl) (fun _ _ _ h => h) (by rfl) ?hvx1_13 hS1 ?restx1_13
                    case hvx1_13 =>
                      intro wz hSz
                      go_simp
                    try simp only [Act.put, List.setIfInBounds_toArray, List.set_cons_zero, List.set_cons_succ]
                    refine wpAnyL_take (i := 14) (some 66) (.pointer (some ⟨b, off + k * 6 + 2, none⟩)) rfl rfl (by kernel_rfl) (by kernel_rfl) (by kernel_rfl) (by kernel_rfl) (fun _ _ _ h => h) (by rfl) ?hvx1_14 hS1 ?restx1_14
                    case hvx1_14 =>
                      intro wz hSz
                      go_simp
                    try simp only [Act.put, List.setIfInBounds_toArray, List.set_cons_zero, List.set_cons_succ]
                    refine wpAnyL_take (i := 15) (some 67) (.int .i64 a) rfl rfl (by kernel_rfl) (by kernel_rfl) (by kernel_rfl) (by kernel_rfl) (fun _ _ _ h => h) (by rfl) ?hvx1_15 hS1 ?restx1_15
                    case hvx1_15 =>
                      intro wz hSz
                      have y2 := (hSz.cell (p := ⟨b, off + k * 6 + 2, none⟩) (HLT.out)).trans x2'
                      go_simp
                    try simp only [Act.put, List.setIfInBounds_toArray, List.set_cons_zero, List.set_cons_succ]
                    refine wpAnyL_take (i := 16) (some 68) (.bool true) rfl rfl (by kernel_rfl) (by kernel_rfl) (by kernel_rfl) (by kernel_rfl) (fun _ _ _ h => h) (by rfl) ?hvx1_16 hS1 ?restx1_16
                    case hvx1_16 =>
                      intro wz hSz
                      go_simp
                    try simp only [Act.put, List.setIfInBounds_toArray, List.set_cons_zero, List.set_cons_succ]
                    refine wpAnyL_take (i := 17) (some 69) (.bool true) rfl rfl (by kernel_rfl) (by kernel_rfl) (by kernel_rfl) (by kernel_rfl) (fun _ _ _ h => h) (by rfl) ?hvx1_17 hS1 ?restx1_17
                    case hvx1_17 =>
                      intro wz hSz
                      go_simp
                    try simp only [Act.put, List.setIfInBounds_toArray, List.set_cons_zero, List.set_cons_succ]
                    refine wpAnyL_done (by kernel_rfl) ?_ _
                    go_wp2_with fail
                    go_ret
                    exact ⟨ret_bool HF.out.symm, bch HBE.out hS1⟩
                  · have q4 : (od == a) = false := by rw [beq_eq_false_iff_ne]; exact hda
                    have HG := Lib.hid (HS.out (fun _ => hda))
                    clear hmk hda HS HHJ
                    refine wp_region_L (fun w' => Below wr.heap.size wr w') 99 (by kernel_rfl) ?_
                    have hS0 : Below wr.heap.size wr wr.drew := Below.drew (Below.refl _ _)
                    refine wpAnyL_take (i := 0) (some 52) (.slice (some ⟨b, off, none⟩) l.length c) rfl rfl (by kernel_rfl) (by kernel_rfl) (by kernel_rfl) (by kernel_rfl) (fun _ _ _ h => h) (by rfl) ?hvx2_0 hS0 ?restx2_0
                    case hvx2_0 =>
                      intro wz hSz
                      go_simp
                    try simp only [Act.put, List.setIfInBounds_toArray, List.set_cons_zero, List.set_cons_succ]
                    refine wpAnyL_take (i := 1) (some 53) (.int .i64 (j : Int)) rfl rfl (by kernel_rfl) (by kernel_rfl) (by kernel_rfl) (by kernel_rfl) (fun _ _ _ h => h) (by rfl) ?hvx2_1 hS0 ?restx2_1
                    case hvx2_1 =>
                      intro wz hSz
                      go_simp
                    try simp only [Act.put, List.setIfInBounds_toArray, List.set_cons_zero, List.set_cons_succ]
                    refine wpAnyL_take (i := 2) (some 54) (.pointer (some ⟨b, off + j * 6, none⟩)) rfl rfl (by kernel_rfl) (by kernel_rfl) (by kernel_rfl) (by kernel_rfl) (fun _ _ _ h => h) (by rfl) ?hvx2_2 hS0 ?restx2_2
                    case hvx2_2 =>
                      intro wz hSz
                      go_simp
                    try simp only [Act.put, List.setIfInBounds_toArray, List.set_cons_zero, List.set_cons_succ]
                    refine wpAnyL_take (i := 3) (some 55) (.agg #[.int .i64 ok, .int .i64 od, .int .i64 oa, .int .i64 ob, .int .i64 oc, .int .i64 oi]) rfl rfl (by kernel_rfl) (by kernel_rfl) (by kernel_rfl) (by kernel_rfl) (fun _ _ _ h => h) (by rfl) ?hvx2_3 hS0 ?restx2_3
                    case hvx2_3 =>
                      intro wz hSz
                      have y0 := (hSz.cell (p := ⟨b, off + j * 6, none⟩) (HLT.out)).trans s0
                      have y1 := (hSz.cell (p := ⟨b, off + j * 6 + 1, none⟩) (HLT.out)).trans s1
                      have y2 := (hSz.cell (p := ⟨b, off + j * 6 + 2, none⟩) (HLT.out)).trans s2
                      have y3 := (hSz.cell (p := ⟨b, off + j * 6 + 3, none⟩) (HLT.out)).trans s3
                      have y4 := (hSz.cell (p := ⟨b, off + j * 6 + 4, none⟩) (HLT.out)).trans s4
                      have y5 := (hSz.cell (p := ⟨b, off + j * 6 + 5, none⟩) (HLT.out)).trans s5
                      go_simp
                    try simp only [Act.put, List.setIfInBounds_toArray, List.set_cons_zero, List.set_cons_succ]
                    refine wpAnyL_one (i := 4) (by kernel_rfl) rfl ?_
                    intro K hK
                    rw [if_pos (by rfl)]
                    go_simp
                    refine (HMK.out _).mono ?_
                    rintro e wc1 ⟨rfl, hb⟩
                    have hS1 := bch hS0 hb
                    refine hK.out _ _ (fun _ => hS1) ?_
                    clear hK hb
                    try simp only [Act.put, List.setIfInBounds_toArray, List.set_cons_zero, List.set_cons_succ]
                    refine wpAnyL_take (i := 5) (some 57) (.bool true) rfl rfl (by kernel_rfl) (by kernel_rfl) (by kernel_rfl) (by kernel_rfl) (fun _ _ _ h => h) (by rfl) ?hvx2_5 hS1 ?restx2_5
                    case hvx2_5 =>
                      intro wz hSz
                      go_simp
                    try simp only [Act.put, List.setIfInBounds_toArray, List.set_cons_zero, List.set_cons_succ]
                    refine wpAnyL_take (i := 6) (some 58) (.slice (some ⟨b, off, none⟩) l.length c) rfl rfl (by kernel_rfl) (by kernel_rfl) (by kernel_rfl) (by kernel_rfl) (fun _ _ _ h => h) (by rfl) ?hvx2_6 hS1 ?restx2_6
                    case hvx2_6 =>
                      intro wz hSz
                      go_simp
                    try simp only [Act.put, List.setIfInBounds_toArray, List.set_cons_zero, List.set_cons_succ]
                    refine wpAnyL_take (i := 7) (some 59) (.int .i64 (j : Int)) rfl rfl (by kernel_rfl) (by kernel_rfl) (by kernel_rfl) (by kernel_rfl) (fun _ _ _ h => h) (by rfl) ?hvx2_7 hS1 ?restx2_7
                    case hvx2_7 =>
                      intro wz hSz
                      go_simp
                    try simp only [Act.put, List.setIfInBounds_toArray, List.set_cons_zero, List.set_cons_succ]
                    refine wpAnyL_take (i := 8) (some 60) (.pointer (some ⟨b, off + j * 6, none⟩)) rfl rfl (by kernel_rfl) (by kernel_rfl) (by kernel_rfl) (by kernel_rfl) (fun _ _ _ h => h) (by rfl) ?hvx2_8 hS1 ?restx2_8
                    case hvx2_8 =>
                      intro wz hSz
                      go_simp
                    try simp only [Act.put, List.setIfInBounds_toArray, List.set_cons_zero, List.set_cons_succ]
                    refine wpAnyL_take (i := 9) (some 61) (.pointer (some ⟨b, off + j * 6 + 1, none⟩)) rfl rfl (by kernel_rfl) (by kernel_rfl) (by kernel_rfl) (by kernel_rfl) (fun _ _ _ h => h) (by rfl) ?hvx2_9 hS1 ?restx2_9
                    case hvx2_9 =>
                      intro wz hSz
                      go_simp
                    try simp only [Act.put, List.setIfInBounds_toArray, List.set_cons_zero, List.set_cons_succ]
                    refine wpAnyL_take (i := 10) (some 62) (.int .i64 od) rfl rfl (by kernel_rfl) (by kernel_rfl) (by kernel_rfl) (by kernel_rfl) (fun _ _ _ h => h) (by rfl) ?hvx2_10 hS1 ?restx2_10
                    case hvx2_10 =>
                      intro wz hSz
                      have y1 := (hSz.cell (p := ⟨b, off + j * 6 + 1, none⟩) (HLT.out)).trans s1
                      go_simp
                    try simp only [Act.put, List.setIfInBounds_toArray, List.set_cons_zero, List.set_cons_succ]
                    refine wpAnyL_take (i := 11) (some 63) (.slice (some ⟨b, off, none⟩) l.length c) rfl rfl (by kernel_rfl) (by kernel_rfl) (by kernel_rfl) (by kernel_rfl) (fun _ _ _ h => h) (by rfl) ?hvx2_11 hS1 ?restx2_11
                    case hvx2_11 =>
                      intro wz hSz
                      go_simp
                    try simp only [Act.put, List.setIfInBounds_toArray, List.set_cons_zero, List.set_cons_succ]
                    refine wpAnyL_take (i := 12) (some 64) (.int .i64 (k : Int)) rfl rfl (by kernel_rfl) (by kernel_rfl) (by kernel_rfl) (by kernel_rfl) (fun _ _ _ h => h) (by rfl) ?hvx2_12 hS1 ?restx2_12
                    case hvx2_12 =>
                      intro wz hSz
                      go_simp
                    try simp only [Act.put, List.setIfInBounds_toArray, List.set_cons_zero, List.set_cons_succ]
                    refine wpAnyL_take (i := 13) (some 65) (.pointer (some ⟨b, off + k * 6, none⟩)) rfl rfl (by kernel_rfl) (by kernel_rfl) (by kernel_rfl) (by kernel_rfl) (fun _ _ _ h => h) (by rfl) ?hvx2_13 hS1 ?restx2_13
                    case hvx2_13 =>
                      intro wz hSz
                      go_simp
                    try simp only [Act.put, List.setIfInBounds_toArray, List.set_cons_zero, List.set_cons_succ]
                    refine wpAnyL_take (i := 14) (some 66) (.pointer (some ⟨b, off + k * 6 + 2, none⟩)) rfl rfl (by kernel_rfl) (by kernel_rfl) (by kernel_rfl) (by kernel_rfl) (fun _ _ _ h => h) (by rfl) ?hvx2_14 hS1 ?restx2_14
                    case hvx2_14 =>
                      intro wz hSz
                      go_simp
                    try simp only [Act.put, List.setIfInBounds_toArray, List.set_cons_zero, List.set_cons_succ]
                    refine wpAnyL_take (i := 15) (some 67) (.int .i64 a) rfl rfl (by kernel_rfl) (by kernel_rfl) (by kernel_rfl) (by kernel_rfl) (fun _ _ _ h => h) (by rfl) ?hvx2_15 hS1 ?restx2_15
                    case hvx2_15 =>
                      intro wz hSz
                      have y2 := (hSz.cell (p := ⟨b, off + k * 6 + 2, none⟩) (HLT.out)).trans x2'
                      go_simp
                    try simp only [Act.put, List.setIfInBounds_toArray, List.set_cons_zero, List.set_cons_succ]
                    refine wpAnyL_take (i := 16) (some 68) (.bool false) rfl rfl (by kernel_rfl) (by kernel_rfl) (by kernel_rfl) (by kernel_rfl) (fun _ _ _ h => h) (by rfl) ?hvx2_16 hS1 ?restx2_16
                    case hvx2_16 =>
                      intro wz hSz
                      go_simp
                    try simp only [Act.put, List.setIfInBounds_toArray, List.set_cons_zero, List.set_cons_succ]
                    refine wpAnyL_take (i := 17) (some 69) (.bool false) rfl rfl (by kernel_rfl) (by kernel_rfl) (by kernel_rfl) (by kernel_rfl) (fun _ _ _ h => h) (by rfl) ?hvx2_17 hS1 ?restx2_17
                    case hvx2_17 =>
                      intro wz hSz
                      go_simp
                    try simp only [Act.put, List.setIfInBounds_toArray, List.set_cons_zero, List.set_cons_succ]
                    refine wpAnyL_done (by kernel_rfl) ?_ _
                    go_wp2_with fail
                    go_roundw
                    case rel => exact ⟨j + 1, by omega, by omega, by go_num, HG.out, bch HBJ.out hS1⟩
                    case measure => simp [intOf]; omega
                · have hmk2 : fDst ok = false := by simpa using hmk
                  rw [hmk2] at HMK
                  have HG := Lib.hid (HS.out (fun h => absurd h hmk))
                  clear hmk hmk2 HS HHJ
                  refine wp_region_L (fun w' => Below wr.heap.size wr w') 99 (by kernel_rfl) ?_
                  have hS0 : Below wr.heap.size wr wr.drew := Below.drew (Below.refl _ _)
                  refine wpAnyL_take (i := 0) (some 52) (.slice (some ⟨b, off, none⟩) l.length c) rfl rfl (by kernel_rfl) (by kernel_rfl) (by kernel_rfl) (by kernel_rfl) (fun _ _ _ h => h) (by rfl) ?hvx3_0 hS0 ?restx3_0
                  case hvx3_0 =>
                    intro wz hSz
                    go_simp
                  try simp only [Act.put, List.setIfInBounds_toArray, List.set_cons_zero, List.set_cons_succ]
                  refine wpAnyL_take (i := 1) (some 53) (.int .i64 (j : Int)) rfl rfl (by kernel_rfl) (by kernel_rfl) (by kernel_rfl) (by kernel_rfl) (fun _ _ _ h => h) (by rfl) ?hvx3_1 hS0 ?restx3_1
                  case hvx3_1 =>
                    intro wz hSz
                    go_simp
                  try simp only [Act.put, List.setIfInBounds_toArray, List.set_cons_zero, List.set_cons_succ]
                  refine wpAnyL_take (i := 2) (some 54) (.pointer (some ⟨b, off + j * 6, none⟩)) rfl rfl (by kernel_rfl) (by kernel_rfl) (by kernel_rfl) (by kernel_rfl) (fun _ _ _ h => h) (by rfl) ?hvx3_2 hS0 ?restx3_2
                  case hvx3_2 =>
                    intro wz hSz
                    go_simp
                  try simp only [Act.put, List.setIfInBounds_toArray, List.set_cons_zero, List.set_cons_succ]
                  refine wpAnyL_take (i := 3) (some 55) (.agg #[.int .i64 ok, .int .i64 od, .int .i64 oa, .int .i64 ob, .int .i64 oc, .int .i64 oi]) rfl rfl (by kernel_rfl) (by kernel_rfl) (by kernel_rfl) (by kernel_rfl) (fun _ _ _ h => h) (by rfl) ?hvx3_3 hS0 ?restx3_3
                  case hvx3_3 =>
                    intro wz hSz
                    have y0 := (hSz.cell (p := ⟨b, off + j * 6, none⟩) (HLT.out)).trans s0
                    have y1 := (hSz.cell (p := ⟨b, off + j * 6 + 1, none⟩) (HLT.out)).trans s1
                    have y2 := (hSz.cell (p := ⟨b, off + j * 6 + 2, none⟩) (HLT.out)).trans s2
                    have y3 := (hSz.cell (p := ⟨b, off + j * 6 + 3, none⟩) (HLT.out)).trans s3
                    have y4 := (hSz.cell (p := ⟨b, off + j * 6 + 4, none⟩) (HLT.out)).trans s4
                    have y5 := (hSz.cell (p := ⟨b, off + j * 6 + 5, none⟩) (HLT.out)).trans s5
                    go_simp
                  try simp only [Act.put, List.setIfInBounds_toArray, List.set_cons_zero, List.set_cons_succ]
                  refine wpAnyL_one (i := 4) (by kernel_rfl) rfl ?_
                  intro K hK
                  rw [if_pos (by rfl)]
                  go_simp
                  refine (HMK.out _).mono ?_
                  rintro e wc1 ⟨rfl, hb⟩
                  have hS1 := bch hS0 hb
                  refine hK.out _ _ (fun _ => hS1) ?_
                  clear hK hb
                  try simp only [Act.put, List.setIfInBounds_toArray, List.set_cons_zero, List.set_cons_succ]
                  refine wpAnyL_take (i := 5) (some 57) (.bool false) rfl rfl (by kernel_rfl) (by kernel_rfl) (by kernel_rfl) (by kernel_rfl) (fun _ _ _ h => h) (by rfl) ?hvx3_5 hS1 ?restx3_5
                  case hvx3_5 =>
                    intro wz hSz
                    go_simp
                  try simp only [Act.put, List.setIfInBounds_toArray, List.set_cons_zero, List.set_cons_succ]
                  refine wpAnyL_skip (i := 6) (some 58) rfl rfl (by kernel_rfl) (by kernel_rfl) (by kernel_rfl) (by kernel_rfl) (fun _ _ _ h => h) (by rfl) hS1 ?restx3_6
                  try simp only [Act.put, List.setIfInBounds_toArray, List.set_cons_zero, List.set_cons_succ]
                  refine wpAnyL_skip (i := 7) (some 59) rfl rfl (by kernel_rfl) (by kernel_rfl) (by kernel_rfl) (by kernel_rfl) (fun _ _ _ h => h) (by rfl) hS1 ?restx3_7
                  try simp only [Act.put, List.setIfInBounds_toArray, List.set_cons_zero, List.set_cons_succ]
                  refine wpAnyL_skip (i := 8) (some 60) rfl rfl (by kernel_rfl) (by kernel_rfl) (by kernel_rfl) (by kernel_rfl) (fun _ _ _ h => h) (by rfl) hS1 ?restx3_8
                  try simp only [Act.put, List.setIfInBounds_toArray, List.set_cons_zero, List.set_cons_succ]
                  refine wpAnyL_skip (i := 9) (some 61) rfl rfl (by kernel_rfl) (by kernel_rfl) (by kernel_rfl) (by kernel_rfl) (fun _ _ _ h => h) (by rfl) hS1 ?restx3_9
                  try simp only [Act.put, List.setIfInBounds_toArray, List.set_cons_zero, List.set_cons_succ]
                  refine wpAnyL_skip (i := 10) (some 62) rfl rfl (by kernel_rfl) (by kernel_rfl) (by kernel_rfl) (by kernel_rfl) (fun _ _ _ h => h) (by rfl) hS1 ?restx3_10
                  try simp only [Act.put, List.setIfInBounds_toArray, List.set_cons_zero, List.set_cons_succ]
                  refine wpAnyL_skip (i := 11) (some 63) rfl rfl (by kernel_rfl) (by kernel_rfl) (by kernel_rfl) (by kernel_rfl) (fun _ _ _ h => h) (by rfl) hS1 ?restx3_11
                  try simp only [Act.put, List.setIfInBounds_toArray, List.set_cons_zero, List.set_cons_succ]
                  refine wpAnyL_skip (i := 12) (some 64) rfl rfl (by kernel_rfl) (by kernel_rfl) (by kernel_rfl) (by kernel_rfl) (fun _ _ _ h => h) (by rfl) hS1 ?restx3_12
                  try simp only [Act.put, List.setIfInBounds_toArray, List.set_cons_zero, List.set_cons_succ]
                  refine wpAnyL_skip (i := 13) (some 65) rfl rfl (by kernel_rfl) (by kernel_rfl) (by kernel_rfl) (by kernel_rfl) (fun _ _ _ h => h) (by rfl) hS1 ?restx3_13
                  try simp only [Act.put, List.setIfInBounds_toArray, List.set_cons_zero, List.set_cons_succ]
                  refine wpAnyL_skip (i := 14) (some 66) rfl rfl (by kernel_rfl) (by kernel_rfl) (by kernel_rfl) (by kernel_rfl) (fun _ _ _ h => h) (by rfl) hS1 ?restx3_14
                  try simp only [Act.put, List.setIfInBounds_toArray, List.set_cons_zero, List.set_cons_succ]
                  refine wpAnyL_skip (i := 15) (some 67) rfl rfl (by kernel_rfl) (by kernel_rfl) (by kernel_rfl) (by kernel_rfl) (fun _ _ _ h => h) (by rfl) hS1 ?restx3_15
                  try simp only [Act.put, List.setIfInBounds_toArray, List.set_cons_zero, List.set_cons_succ]
                  refine wpAnyL_skip (i := 16) (some 68) rfl rfl (by kernel_rfl) (by kernel_rfl) (by kernel_rfl) (by kernel_rfl) (fun _ _ _ h => h) (by rfl) hS1 ?restx3_16
                  try simp only [Act.put, List.setIfInBounds_toArray, List.set_cons_zero, List.set_cons_succ]
                  refine wpAnyL_take (i := 17) (some 69) (.bool false) rfl rfl (by kernel_rfl) (by kernel_rfl) (by kernel_rfl) (by kernel_rfl) (fun _ _ _ h => h) (by rfl) ?hvx3_17 hS1 ?restx3_17
                  case hvx3_17 =>
                    intro wz hSz
                    go_simp
                  try simp only [Act.put, List.setIfInBounds_toArray, List.set_cons_zero, List.set_cons_succ]
                  refine wpAnyL_done (by kernel_rfl) ?_ _
                  go_wp2_with fail
                  go_roundw
                  case rel => exact ⟨j + 1, by omega, by omega, by go_num, HG.out, bch HBJ.out hS1⟩
                  case measure => simp [intOf]; omega
              · obtain rfl : j = l.length := by omega
                go_wp2_with fail
                go_ret
                exact ⟨ret_bool (HY.out HNJ.out).symm, HBE.out⟩
          · have HF := Lib.hid (HBAD.out hd hdt hcp)
            by_cases hk2 : kd = 2
            · have q2 : (kd != 2) = false := by rw [bne_eq_false_iff_eq]; exact hk2
              have q3 : (a == t) = true := by rw [beq_iff_eq]; exact Decidable.byContradiction fun h => hcp ⟨hk2, h⟩
              clear hd hdt hcp hk2
              go_wp2_with fail
              go_ret
              exact ⟨ret_bool HF.out.symm, HB2.out⟩
            · have q2 : (kd != 2) = true := by rw [bne_iff_ne]; exact hk2
              clear hd hdt hcp hk2
              go_wp2_with fail
              go_ret
              exact ⟨ret_bool HF.out.symm, HB2.out⟩
        · have q1 : (d != t) = true := by rw [bne_iff_ne]; exact hdt
          have HG := Lib.hid (HNN.out (fun _ => hdt))
          clear hd hdt
          go_wp2_with fail
          go_roundw
          case rel => exact ⟨k, by omega, by go_num, HG.out, HB2.out⟩
          case measure => simp [intOf]
      · have hd2 : fDst kd = false := by simpa using hd
        rw [hd2]
        have HG := Lib.hid (HNN.out (fun h => absurd h hd))
        clear hd hd2
        go_wp2_with fail
        go_roundw
        case rel => exact ⟨k, by omega, by go_num, HG.out, HB2.out⟩
        case measure => simp [intOf]
end Go.Proofs.Ytiaimceefkdchaa
