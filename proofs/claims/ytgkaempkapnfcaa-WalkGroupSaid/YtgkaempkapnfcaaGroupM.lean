/- Walks put together, in whole numbers: which two are put together first changes nothing; the walk that stays at 0; the way back of the way back. And the greatest of many numbers, as the model reckons it. -/
import Derived.Test.YtgkaempkapnfcaaBack
import Derived.Test.YtgkaempkapnfcaaLives36
import Derived.Deep.DeepCutAuto
namespace Go.Proofs.Ytgkaempkapnfcaa
open Go.RowKit

theorem bal {a w : World} (h : Below a.heap.size a w) (o : Obj) : Below a.heap.size a (w.alloc o) := h.alloc h.size o
theorem lt_of_blk {w : World} {g : Nat} {o : Obj} (h : w.heap[g]? = some o) : g < w.heap.size := by
  rcases Nat.lt_or_ge g w.heap.size with h1 | h1
  · exact h1
  · rw [Array.getElem?_eq_none h1] at h; cases h
def mx (x y : Int) : Int := if y > x then y else x
def maxl (x : Int) (ys : List Int) : Int := ys.foldl mx x
theorem maxl_lt (M : Int) : ∀ (ys : List Int) (x : Int), maxl x ys < M ↔ x < M ∧ ∀ y ∈ ys, y < M
  | [], x => by simp [maxl]
  | y :: ys, x => by
    have := maxl_lt M ys (mx x y)
    unfold maxl at this ⊢
    simp only [List.foldl_cons, this, List.mem_cons, forall_eq_or_imp]
    unfold mx
    constructor
    · rintro ⟨h1, h2⟩
      split at h1
      · exact ⟨by omega, by omega, h2⟩
      · exact ⟨by omega, by omega, h2⟩
    · rintro ⟨h1, h2, h3⟩
      refine ⟨?_, h3⟩
      split
      · exact h2
      · exact h1
theorem run_maxl (P : Program) (ts : Array TypeId) (t : TypeId) (W : World) (x : Int) (ys : List Int) : (Builtin.max_ ts t (Value.int .i64 x :: ys.map (Value.int .i64)).toArray).run P W = .ok (.int .i64 (maxl x ys)) W := by
  unfold Builtin.max_ maxl
  show Sem.run P ((ys.map (Value.int .i64)).foldlM Builtin.max2 (Value.int .i64 x)) W = _
  induction ys generalizing x with
  | nil => simp [Sem.run_pure]
  | cons y ys ih =>
    simp only [List.map_cons, List.foldlM_cons, List.foldl_cons, Sem.run_bind, Builtin.max2, Sem.run_pure, Result.andThen_ok]
    exact ih (mx x y)
theorem run_max12 (P : Program) (ts : Array TypeId) (t : TypeId) (W : World) (a b c d e f g h i j k l : Int) : (Builtin.max_ ts t #[.int .i64 a, .int .i64 b, .int .i64 c, .int .i64 d, .int .i64 e, .int .i64 f, .int .i64 g, .int .i64 h, .int .i64 i, .int .i64 j, .int .i64 k, .int .i64 l]).run P W = .ok (.int .i64 (maxl a [b, c, d, e, f, g, h, i, j, k, l])) W :=
  run_maxl P ts t W a [b, c, d, e, f, g, h, i, j, k, l]
theorem then_assoc (a b c : Wk) (ha : a.t < 4) (hb : b.t < 4) (hc : c.t < 4) : (a.then b).then c = a.then (b.then c) := by
  obtain ⟨a1, a2, ak⟩ := a
  obtain ⟨b1, b2, bk⟩ := b
  obtain ⟨c1, c2, ck⟩ := c
  unfold Wk.then
  simp only at ha hb hc ⊢
  have h := cos_add ak bk ha hb
  rw [← h.1, ← h.2]
  have e : ((ak + bk) % 4 + ck) % 4 = (ak + (bk + ck) % 4) % 4 := by omega
  rw [e]
  clear e h
  have h1 : ak = 0 ∨ ak = 1 ∨ ak = 2 ∨ ak = 3 := by omega
  have h2 : bk = 0 ∨ bk = 1 ∨ bk = 2 ∨ bk = 3 := by omega
  clear ha hb hc
  congr 1
  · rcases h1 with rfl | rfl | rfl | rfl <;> rcases h2 with rfl | rfl | rfl | rfl <;> simp only [cosI, sinI] <;> omega
  · rcases h1 with rfl | rfl | rfl | rfl <;> rcases h2 with rfl | rfl | rfl | rfl <;> simp only [cosI, sinI] <;> omega
theorem then_none (a : Wk) (ha : a.t < 4) : a.then wkNone = a := by
  obtain ⟨a1, a2, ak⟩ := a
  unfold Wk.then wkNone
  simp only at ha ⊢
  simp; omega
theorem none_then (a : Wk) (ha : a.t < 4) : wkNone.then a = a := by
  obtain ⟨a1, a2, ak⟩ := a
  unfold Wk.then wkNone
  simp only [cosI, sinI] at ha ⊢
  simp; omega
theorem back_back (a : Wk) (ha : a.t < 4) : a.back.back = a := by
  obtain ⟨a1, a2, ak⟩ := a
  unfold Wk.back
  simp only at ha ⊢
  match ak, ha with
  | 0, _ | 1, _ | 2, _ | 3, _ => simp [cosI, sinI]
theorem then_bound (a b : Wk) (M N : Int) (ha : -M ≤ a.re ∧ a.re ≤ M ∧ -M ≤ a.im ∧ a.im ≤ M) (hb : -N ≤ b.re ∧ b.re ≤ N ∧ -N ≤ b.im ∧ b.im ≤ N) (hN : 0 ≤ N) :
    -(M + N) ≤ (a.then b).re ∧ (a.then b).re ≤ M + N ∧ -(M + N) ≤ (a.then b).im ∧ (a.then b).im ≤ M + N := by
  have h := rot_bound a.t b.re b.im N ⟨hb.1, hb.2.1⟩ ⟨hb.2.2.1, hb.2.2.2⟩ hN
  unfold Wk.then
  simp only
  omega
theorem back_bound (a : Wk) (M : Int) (ha : -M ≤ a.re ∧ a.re ≤ M ∧ -M ≤ a.im ∧ a.im ≤ M) (hM : 0 ≤ M) : -M ≤ a.back.re ∧ a.back.re ≤ M ∧ -M ≤ a.back.im ∧ a.back.im ≤ M ∧ a.back.t < 4 := by
  have h := rot_bound ((4 - a.t) % 4) a.re a.im M ⟨ha.1, ha.2.1⟩ ⟨ha.2.2.1, ha.2.2.2⟩ hM
  unfold Wk.back
  simp only [Int.neg_mul]
  omega
/-- The contract of May of hauberkref36. -/
theorem ref36_May (re im t : Int) (w : World) :
    Calls Try.prog 62 #[.agg #[.int .i64 re, .int .i64 im, .int .i64 t]] w fun e w' => e = .returned (.bool (mayB re im t)) ∧ Below w.heap.size w w' := by
  go_enter Try.func62, Try.ntmps62
  by_cases h1 : -1099511627776 ≤ re
  all_goals
    go_wp2
  all_goals
    go_ret
    exact ⟨ret_bool (by unfold mayB; rw [Bool.eq_iff_iff]; simp; omega), (Below.refl _ _).alloc (Nat.le_refl _) _⟩
/-- The contract of own, with the world to the letter. -/
theorem law36_own_at (re im t : Int) (w : World) :
    Calls Try.prog 50 #[.agg #[.int .i64 re, .int .i64 im, .int .i64 t]] w fun e w' => e = .returned (.agg #[.int .i64 re, .int .i64 im, .int .i64 t]) ∧
      (w.alloc (.cells #[.int .i64 re, .int .i64 im, .int .i64 t] 33)).alloc (.cells #[.int .i64 re, .int .i64 im, .int .i64 t] 30) = w' := by
  go_enter Try.func50, Try.ntmps50
  go_wp2
  refine bodyPost_ret (v := .agg #[.int .i64 re, .int .i64 im, .int .i64 t]) (by simp [results, Try.results50, go_sem]) rfl ⟨rfl, rfl⟩
/-- Three numbers as a walk's value. -/
def w3 (a b c : Int) : Value := .agg #[.int .i64 a, .int .i64 b, .int .i64 c]
/-- 'f, of these arguments, in any world, returns this; nothing that lay there changes.' -/
def Tells (f : FuncId) (args : Array Value) (v : Value) : Prop := ∀ W, Calls Try.prog f args W fun e W' => e = .returned v ∧ Below W.heap.size W W'
theorem mayB_no {a b c : Int} (h : mayB a b c = true) : ∃ k : Nat, c = (k : Int) ∧ (Wk.mk a b k).may := by
  unfold mayB at h
  simp at h
  refine ⟨c.toNat, by omega, ?_⟩
  unfold Wk.may
  simp only
  omega
theorem group_contracts (a1 a2 a3 b1 b2 b3 c1 c2 c3 : Int) (ha : mayB a1 a2 a3 = true) (hb : mayB b1 b2 b3 = true) (hc : mayB c1 c2 c3 = true)
    (h1 : -274877906944 < a1 ∧ a1 < 274877906944) (h2 : -274877906944 < a2 ∧ a2 < 274877906944) (h3 : -274877906944 < b1 ∧ b1 < 274877906944) (h4 : -274877906944 < b2 ∧ b2 < 274877906944) (h5 : -274877906944 < c1 ∧ c1 < 274877906944) (h6 : -274877906944 < c2 ∧ c2 < 274877906944) :
    ∃ p1 p2 p3 q1 q2 q3 r1 r2 r3 s1 s2 s3 : Int, Tells 60 #[w3 a1 a2 a3, w3 b1 b2 b3] (w3 p1 p2 p3) ∧ Tells 60 #[w3 p1 p2 p3, w3 c1 c2 c3] (w3 q1 q2 q3) ∧ Tells 60 #[w3 b1 b2 b3, w3 c1 c2 c3] (w3 r1 r2 r3) ∧
      Tells 60 #[w3 a1 a2 a3, w3 r1 r2 r3] (w3 q1 q2 q3) ∧ Tells 60 #[w3 a1 a2 a3, w3 0 0 0] (w3 a1 a2 a3) ∧ Tells 60 #[w3 0 0 0, w3 a1 a2 a3] (w3 a1 a2 a3) ∧
      Tells 61 #[w3 a1 a2 a3] (w3 s1 s2 s3) ∧ Tells 61 #[w3 s1 s2 s3] (w3 a1 a2 a3) := by
  obtain ⟨ak, rfl, ma⟩ := mayB_no ha
  obtain ⟨bk, rfl, mb⟩ := mayB_no hb
  obtain ⟨ck, rfl, mc⟩ := mayB_no hc
  have ba := (⟨by simp only; omega, by simp only; omega, by simp only; omega, by simp only; omega⟩ : -274877906944 ≤ (Wk.mk a1 a2 ak).re ∧ (Wk.mk a1 a2 ak).re ≤ 274877906944 ∧ -274877906944 ≤ (Wk.mk a1 a2 ak).im ∧ (Wk.mk a1 a2 ak).im ≤ 274877906944)
  have bb := (⟨by simp only; omega, by simp only; omega, by simp only; omega, by simp only; omega⟩ : -274877906944 ≤ (Wk.mk b1 b2 bk).re ∧ (Wk.mk b1 b2 bk).re ≤ 274877906944 ∧ -274877906944 ≤ (Wk.mk b1 b2 bk).im ∧ (Wk.mk b1 b2 bk).im ≤ 274877906944)
  have bc := (⟨by simp only; omega, by simp only; omega, by simp only; omega, by simp only; omega⟩ : -274877906944 ≤ (Wk.mk c1 c2 ck).re ∧ (Wk.mk c1 c2 ck).re ≤ 274877906944 ∧ -274877906944 ≤ (Wk.mk c1 c2 ck).im ∧ (Wk.mk c1 c2 ck).im ≤ 274877906944)
  have e1 := then_none (Wk.mk a1 a2 ak) ma.2.2.2.2
  have e2 := none_then (Wk.mk a1 a2 ak) ma.2.2.2.2
  have e3 := back_back (Wk.mk a1 a2 ak) ma.2.2.2.2
  have e4 := then_assoc (Wk.mk a1 a2 ak) (Wk.mk b1 b2 bk) (Wk.mk c1 c2 ck) ma.2.2.2.2 mb.2.2.2.2 mc.2.2.2.2
  have hz : wkNone.may := by unfold Wk.may wkNone; simp
  have t1 := walk_Then_yes _ _ ma hz
  have t2 := walk_Then_yes _ _ hz ma
  have t3 := walk_Then_yes _ _ ma mb
  have t4 := walk_Then_yes _ _ mb mc
  have t5 := walk_Back_yes _ ma
  have n1 := then_bound _ _ _ _ ba bb (by decide)
  have n2 := then_bound _ _ _ _ bb bc (by decide)
  have n3 := back_bound _ _ ba (by decide)
  have mp : (Wk.then ⟨a1, a2, ak⟩ ⟨b1, b2, bk⟩).may := ⟨by omega, by omega, by omega, by omega, Nat.mod_lt _ (by decide)⟩
  have mr : (Wk.then ⟨b1, b2, bk⟩ ⟨c1, c2, ck⟩).may := ⟨by omega, by omega, by omega, by omega, Nat.mod_lt _ (by decide)⟩
  have ms : (Wk.back ⟨a1, a2, ak⟩).may := ⟨by omega, by omega, by omega, by omega, n3.2.2.2.2⟩
  have t6 := walk_Then_yes _ _ mp mc
  have t7 := walk_Then_yes _ _ ma mr
  have t8 := walk_Back_yes _ ms
  rw [e1] at t1
  rw [e2] at t2
  rw [e3] at t8
  rw [← e4] at t7
  exact ⟨_, _, _, _, _, _, _, _, _, _, _, _, t3, t6, t4, t7, t1, t2, t5, t8⟩
end Go.Proofs.Ytgkaempkapnfcaa
