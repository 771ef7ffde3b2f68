/- Parts of a proof. No condition but those that each theorem names. -/
import Derived.Tactics
import Derived.RangeFuncCalls
import Derived.RangeFuncNested
import Derived.TacticsIn
import Derived.Test.YtfibdoehmndinaaGreatDoorTfG0e1
namespace Go.Proofs.YtfibdoehmndinaaGreatDoor
open Go
set_option maxRecDepth 100000
section
variable {a:Act} {id l n:Nat} {w:World}
section
variable {P:Program} {ops:Array Oper} {Q:Exit→Act→World→Prop}
def zph (ops:Array Oper):Bool:=ops.all fun o=>match o.op with
 | .defer _=>false
 | _=>true
theorem zCs (l n:Nat) (hd:zph ops=true) (hL:¬LetsOut Q):∀(order:List Nat) (a:Act) (w:World),wpOps P ops Q order a w→wpOpsIn (Fence.wide.inRound l) n P ops Q order a w
 | [],a,w,h=>h
 | i::rest,a,w,h=>by
  unfold wpOps at h
  unfold wpOpsIn
  cases ho:ops[i]? with
  | none =>
   rw[ho] at h
   exact zCs l n hd hL rest a w h
  | some o =>
   rw[ho] at h
   simp only at h ⊢
   have hnd:∀c,o.op≠.defer c:=fun c hc=>by
    have h1:=hd
    unfold zph at h1
    rw[Array.all_eq_true_iff_forall_mem] at h1
    have h2:=h1 o (Array.mem_of_getElem? ho)
    rw[hc] at h2
    cases h2
   by_cases hw:Region.wanted o (yielded ops a.tmps)=true
   · rw[if_pos hw] at h ⊢
     rcases h with h | h
     · refine⟨fun f hf=>trivial,?_⟩
       rw[show (Fence.wide.inRound l).round=some l from rfl,Oper.semAt_some l _ _ hnd]
       unfold Oper.wp at h
       generalize (execOp a.eval o).run P w=r at h
       cases r with
       | ok x w' =>
        cases x with
        | value v=>exact zCs l n hd hL rest _ _ h
        | skip=>exact zCs l n hd hL rest _ _ h
        | defer d=>exact zCs l n hd hL rest _ _ h
        | enter f args =>
         refine⟨fun h1=>(by cases h1),CallsIn.inRound l (callsIn_wide.2 (Calls.mono h fun e w'' he=>?_))⟩
         cases e
         case panicked c=>exact he
         case outgrown=>exact he
         rename_i v
         exact zCs l n hd hL rest _ _ he
        | row row args =>
         refine⟨fun h1=>(by cases h1),fun c cs _=>?_⟩
         obtain⟨v,w'',h1,h2⟩:=h c cs
         exact⟨v,w'',zCs l n hd hL rest _ _ h1,stepsIn_wide.2 h2⟩
        | round=>exact h.elim
        | _=>exact h.elim
       | halt x w' =>
        cases x with
        | panic v=>exact h
        | _=>exact h.elim
     exact absurd h.2 hL
   rw[if_neg hw] at h ⊢
   exact⟨fun f hf=>trivial,zCs l n hd hL rest _ _ h⟩
theorem zFc (S:World→Prop) (L:Nat) (hm:P.follows .mixedOrders=true) (hd:zph ops=true) (hL:¬LetsOut Q)
  (h:zL4 P .any ops Q S L ops.size (Array.replicate ops.size false) a w.drew):(Code.region id ops true).wpIn (Fence.wide.inRound l) n P Q a w :=
 wpIn_region_draw fun t=>by
  simp only[Region.schedule,hm,Bool.true_or,if_true]
  exact zCs l n hd hL _ _ _ (wpAny_sound ops.size t _ a _ (zmN _ _ _ _ h))
theorem zaK (R:Act→World→Prop) (S:World→Prop) (L:Nat) (hm:P.follows .mixedOrders=true) (hd:zph ops=true)
  (h:zL4 P .any ops (fun x a' w'=>match x with
   | .normal=>R a' w'
   | _=>False) S L ops.size (Array.replicate ops.size false) a w.drew) (hR:∀a' w',R a' w'→Q .normal a' w'):(Code.region id ops true).wpIn (Fence.wide.inRound l) n P Q a w:=by
 refine wpIn_mono (zFc S L hm hd (fun ⟨a,w,h⟩=>h) h) (fun x a' w' hx=>?_)
 cases x with
 | normal=>exact hR _ _ hx
 | _=>exact hx.elim
end
end
end Go.Proofs.YtfibdoehmndinaaGreatDoor
