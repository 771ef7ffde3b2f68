/- Parts of a proof. No condition but those that each theorem names. -/
import Derived.OrdersHeld
import Derived.RegionTactic
import Derived.Below
import Derived.Test.YtfibdoehmndinaaGreatDoorTfG0e0
namespace Go.Proofs.YtfibdoehmndinaaGreatDoor
open Go
section
variable {P:Program} {ops:Array Oper} {Q:Exit→Act→World→Prop} {md:Region.Mode} {S:World→Prop} {L:Nat}
def zL4 (P:Program) (md:Region.Mode) (ops:Array Oper) (Q:Exit→Act→World→Prop) (S:World→Prop) (L:Nat):Nat→Array Bool→Act→World→Prop
 | 0,listed,a,w=>Region.ready md ops listed=[]∧Q .normal a w
 | n+1,listed,a,w=>(Region.ready md ops listed=[]→Q .normal a w) ∧
  ∀i∈Region.ready md ops listed,wpOp P ops Q i (fun a' w'=>(i≠L→S w')∧zL4 P md ops Q S L n (listed.setIfInBounds i true) a' w') a w
theorem zmN:∀(n:Nat) (listed:Array Bool) (a:Act) (w:World),zL4 P md ops Q S L n listed a w→wpAny P md ops Q n listed a w
 | 0,_,_,_,h=>h
 | n+1,_,_,_,h=>⟨h.1,fun i hi=>wpOp_mono (fun a' w' h'=>zmN n _ a' w' h'.2) (h.2 i hi)⟩
def zg4 (md:Region.Mode) (ops:Array Oper) (L i:Nat):Bool:=match ops[L]? with
 | none=>true
 | some o=>o.after.any fun e=>Region.binds md e && (e.on==i)
theorem z4H {listed:Array Bool} {i:Nat} (hw:zg4 md ops L i=true) (hi:i∈Region.ready md ops listed):L∉Region.ready md ops listed:=by
 intro hL;obtain⟨_,o,ho,hall⟩:=mem_ready.1 hL;unfold zg4 at hw;rw[ho] at hw;simp only[Array.any_eq_true] at hw;obtain⟨k,hk,he⟩:=hw;simp only[Bool.and_eq_true,beq_iff_eq] at he;have h1:=hall o.after[k] (Array.getElem_mem hk) he.1;rw[he.2] at h1;have h0:=(mem_ready.1 hi).1;rcases Nat.lt_or_ge i listed.size with h' | h'
 · simp[h'] at h0 h1;rw[h0] at h1;cases h1
 · simp[Array.getElem?_eq_none h'] at h1
theorem zRx {i:Nat} {oi:Oper} {v:Value} (hi:ops[i]? = some oi) (hsel:∀(j:Nat) (o:Oper) cs b,ops[j]? = some o→o.op≠.select cs b) (hw:zg4 md ops L i=true)
  (hQ:∀c a w,Q (.panic c) (a.put oi.dst v) w→Q (.panic c) a w) :
  ∀(n:Nat) (listed:Array Bool) (a:Act) (w:World),
   (∀j oj,ops[j]? = some oj→j≠i→listed.getD j true=false→(∀e∈oj.after,Region.binds md e=true→e.on≠i)→oi.apart ops oj=true) →
   i∈Region.ready md ops listed→YieldsIf P ops S oi v a→S w →
   zL4 P md ops Q S L n (listed.setIfInBounds i true) (a.put oi.dst v) w→zL4 P md ops Q S L (n+1) listed a w:=by
 intro n
 induction n with
 | zero =>
  intro listed a w _ hr hy hS H
  refine⟨fun h=>(by rw[h] at hr;cases hr),fun j hj=>?_⟩
  by_cases hji:j=i
  · subst hji;exact hy.wpOp hi hS ⟨fun _=>hS,H⟩
  · have:=ready_mono hj hji
    rw[H.1] at this
    cases this
 | succ n ih =>
  intro listed a w hfree hr hy hS H
  refine⟨fun h=>(by rw[h] at hr;cases hr),fun j hj=>?_⟩
  by_cases hji:j=i
  · subst hji;exact hy.wpOp hi hS ⟨fun _=>hS,H⟩
  · have hjL:j≠L:=fun e=>z4H hw hr (e ▸ hj)
    have h1:=H.2 j (ready_mono hj hji)
    obtain⟨hjun,oj,hoj,hall⟩:=mem_ready.1 hj
    have hnot:∀e∈oj.after,Region.binds md e=true→e.on≠i:=fun e he hb heq=>by
     have h1:=hall e he hb
     have h0:=(mem_ready.1 hr).1
     rw[heq] at h1
     rcases Nat.lt_or_ge i listed.size with h' | h'
     · simp[h'] at h0 h1;rw[h0] at h1;cases h1
     · simp[Array.getElem?_eq_none h'] at h1
    have h2:=wpOp_putIf hoj (hfree j oj hoj hji hjun hnot) (fun cs b=>hsel i oi cs b hi) (fun cs b=>hsel j oj cs b hoj) hQ hy h1
    have hfree':∀k ok,ops[k]? = some ok→k≠i→(listed.setIfInBounds j true).getD k true=false →
      (∀e∈ok.after,Region.binds md e=true→e.on≠i)→oi.apart ops ok=true:=fun k ok hk hki hun hno=>by
     refine hfree k ok hk hki ?_ hno
     by_cases hjk:j=k
     · subst hjk;exact hjun
     · rw[getD_set_ne true hjk] at hun;exact hun
    refine wpOp_mono (fun a' w' h3=>⟨fun _=>h3.2.1 hjL,ih (listed.setIfInBounds j true) a' w' hfree' (ready_mono hr (Ne.symm hji)) h3.1 (h3.2.1 hjL) ?_⟩) h2
    rw[Array.setIfInBounds_comm _ _ hji]
    exact h3.2.2
theorem zM8 {i:Nat} {oi:Oper} (d:Option Tmp) (v:Value) {n:Nat} {listed:Array Bool} {a:Act} {w:World} (hi:ops[i]? = some oi) (hd:oi.dst=d)
  (hs:Region.noSelect ops=true) (hf:Region.free md ops listed i=true) (hr:(Region.ready md ops listed).contains i=true) (hw:zg4 md ops L i=true)
  (hQ:∀c a w,Q (.panic c) (a.put d v) w→Q (.panic c) a w) (hy:Region.wanted oi (yielded ops a.tmps)=true) (hv:∀w,S w→(execOp a.eval oi).run P w=.ok (.value v) w) (hS:S w)
  (h:zL4 P md ops Q S L n (listed.setIfInBounds i true) (a.put d v) w):zL4 P md ops Q S L (n+1) listed a w:=by
 subst hd;exact zRx hi (Region.noSelect_spec hs) hw hQ n listed a w (Region.free_spec hi hf) (by simpa using hr) (Or.inl ⟨hy,hv⟩) hS h
theorem zrC {i:Nat} {oi:Oper} (d:Option Tmp) {n:Nat} {listed:Array Bool} {a:Act} {w:World} (hi:ops[i]? = some oi) (hd:oi.dst=d)
  (hs:Region.noSelect ops=true) (hf:Region.free md ops listed i=true) (hr:(Region.ready md ops listed).contains i=true) (hw:zg4 md ops L i=true)
  (hQ:∀c a w,Q (.panic c) (a.put d undef) w→Q (.panic c) a w) (hy:Region.wanted oi (yielded ops a.tmps)=false) (hS:S w)
  (h:zL4 P md ops Q S L n (listed.setIfInBounds i true) (a.put d undef) w):zL4 P md ops Q S L (n+1) listed a w:=by
 subst hd;exact zRx hi (Region.noSelect_spec hs) hw hQ n listed a w (Region.free_spec hi hf) (by simpa using hr) (Or.inr ⟨hy,rfl⟩) hS h
theorem zOF {i:Nat} {oi:Oper} {n:Nat} {listed:Array Bool} {a:Act} {w:World} (hr:Region.ready md ops listed=[i]) (hi:ops[i]? = some oi)
  (h:∀K:Act→World→Prop,Jd (∀a' w',(i≠L→S w')→zL4 P md ops Q S L n (listed.setIfInBounds i true) a' w'→K a' w')→if Region.wanted oi (yielded ops a.tmps)=true then Oper.wp P oi a w K Q else K (a.put oi.dst undef) w):zL4 P md ops Q S L (n+1) listed a w:=by
 refine⟨fun h0=>(by rw[hr] at h0;cases h0),fun j hj=>?_⟩;rw[hr] at hj;obtain rfl:=List.mem_singleton.1 hj;exact wpOp_step hi fun K hK=>h K ⟨fun a' w' h1 h2=>hK a' w' ⟨h1,h2⟩⟩
theorem zqr {listed:Array Bool} {a:Act} {w:World} (hr:Region.ready md ops listed=[]) (h:Q .normal a w):∀n,zL4 P md ops Q S L n listed a w
 | 0=>⟨hr,h⟩
 | _+1=>⟨fun _=>h,by rw[hr];simp⟩
theorem z1a {id:Nat} {a:Act} {w:World} (S:World→Prop) (L:Nat) (hm:P.follows .mixedOrders=true) (h:zL4 P .any ops Q S L ops.size (Array.replicate ops.size false) a w.drew):(Code.region id ops true).wp P Q a w :=
 wp_region_any hm (zmN _ _ _ _ h)
end
end Go.Proofs.YtfibdoehmndinaaGreatDoor
