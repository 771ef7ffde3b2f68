/- Parts of a proof. No condition but those that each theorem names. -/
import Derived.OrdersHeld
import Derived.RegionTactic
import Derived.Test.YtfibdoehmndinaaGreatDoorProg
import Derived.Laws.MakeOwn
import Derived.Test.YtfibdoehmndinaaGreatDoorTfG0e3
namespace Go.Proofs.YtfibdoehmndinaaGreatDoor
open Go.RowKit
set_option maxRecDepth 100000
set_option linter.unusedVariables false
section
variable {B:Nat} {T:Type} {E:Enc T} {P:Program} {Q:Exit→Act→World→Prop} {a:Act} {base:Nat} {cs:Array Value} {g i m n:Nat} {o:Oper} {ops:Array Oper} {t:TypeId} {v:Value} {w:World} {x:Obj} {ys:List Value}
theorem z50 {K:Act→World→Prop} {E:Prop} (hgd:o.guard=none) (s x:Operand) (t:TypeId)
  (ho:o.op=.call { callee:=.builtin .append,args:=#[s,x],argTypes:=#[t,t] }) {v xv v':Value} {w':World} (hrun:(Builtin.append_ #[t,t] o.type #[v,xv]).run P w=.ok v' w') (hs:a.eval s=v) (hx:a.eval x=xv)
  (h:K (a.put o.dst v') w'):if Region.wanted o (yielded ops a.tmps)=true then Oper.wp P o a w K Q else E:=by
 rw[if_pos (by simp[Region.wanted,hgd])];unfold Oper.wp execOp;simp only[ho,resolve,invoke,builtin,Sem.run_bind,Sem.run_pure,Result.andThen_ok,List.map_toArray,List.map_cons,List.map_nil,hs,hx,hrun];exact h
theorem zEF {rest:List Oper} (hgd:o.guard=none) (s x:Operand) (t:TypeId)
  (ho:o.op=.call { callee:=.builtin .append,args:=#[s,x],argTypes:=#[t,t] }) {v xv v':Value} {w':World} (hrun:(Builtin.append_ #[t,t] o.type #[v,xv]).run P w=.ok v' w') (hs:a.eval s=v) (hx:a.eval x=xv)
  (h:wpList P ops Q rest (a.put o.dst v') w'):wpList P ops Q (o::rest) a w:=by
 refine wpList_plain hgd fun K hK=>?_;unfold Oper.wp execOp;simp only[ho,resolve,invoke,builtin,Sem.run_bind,Sem.run_pure,Result.andThen_ok,List.map_toArray,List.map_cons,List.map_nil,hs,hx,hrun];exact hK _ _ h
theorem zPw (h:w.heap[g]? = some (.cells cs t (0,0))) (i:Nat) (u:Value):(w.setCell ⟨g,i,none⟩ u).heap[g]? = some (.cells (cs.setIfInBounds i u) t (0,0)):=by
 simp[World.setCell,Array.getElem?_modify,h]
theorem zjV (w:World) (p:Addr) (u:Value):w.grownBy (w.setCell p u) (some p.block) :=
 ⟨rfl,rfl,rfl,by simp[World.setCell],fun k _ hne=>Below.heap_setCell w p u k (fun e=>hne (by rw[e]))⟩
theorem bdr {a:World} (h:Below B a w):Below B a w.drew:=⟨h.os,h.tape,h.output,h.size,h.block⟩
theorem zjf {es:List Value} {x:T} (hb:w.heap[g]? = some (.cells es.toArray t (0,0))) (hB:g<B) (hr:E.rep w B es x):zj E w B (.slice (some ⟨g,0,none⟩) 1 1) [x]:=by
 refine⟨some ⟨g,0,none⟩,1,rfl,by simp,fun k u hk=>?_⟩
 have hk0:k=0:=by
  cases k
  case zero=>rfl
  rename_i k;simp at hk
 subst hk0;simp at hk;subst hk;refine⟨g,0,es,rfl,hB,hr,fun j u hu=>?_⟩;have:=(zz hb j).1;rw[show 0+0*E.size+j=j by omega,this];simpa using hu
theorem za3 (h:w.heap[n]? = some x) (o:Obj):(w.alloc o).heap[n]? = some x:=((bnew w o).block n (zh h)).trans h
theorem zEz:(Tryz.prog.info? 3).map (fun i=>(i.zero,i.size,i.bytes))=some (some (.int .i64 0),1,8):=by kernel_rfl
theorem zQk {i:Option TypeInfo} {z:Option Value} (h:i.map (fun i=>(i.zero,i.size,i.bytes))=some (z,n,m)):∃i0,i=some i0∧i0.zero=z∧i0.size=n∧i0.bytes=m:=by
 cases i
 case none=>cases h
 rename_i i0;simp at h;exact⟨i0,rfl,h.1,h.2.1,h.2.2⟩
theorem z7G {e:TypeId} {size:Nat} {xs:List Value} (h:w.ownsRow base e size v n xs) (p:Addr) (u:Value) (hp:p.block<base):(w.setCell p u).ownsRow base e size v n xs:=by
 refine h.kept (zjV w p u) ?_;cases hv:v.ownBlock
 case none=>exact .inl rfl
 rename_i k;refine .inr fun e=>?_;injection e with e;have:=(h.lt k hv).1;omega
theorem zVY {w':World} {t:Nat} (h:w.ownsRow B t m v n ys) (hb:Below w.heap.size w w'):w'.ownsRow B t m v n ys :=
 h.kept (row:=none) ⟨hb.os,hb.tape,hb.output,hb.size,fun k hk _=>hb.block k hk⟩ (by cases v.ownBlock <;> simp)
theorem zfk {t:Nat} (h:w.ownsRow base t m v n ys):∃A cap,v=.slice A n cap:=by
 rcases h.2 with⟨rfl,rfl⟩ | ⟨g,cap,cur,rfl,_⟩
 · exact⟨none,0,rfl⟩
 exact⟨_,cap,rfl⟩
theorem zew (m:Nat):∀(cs:List (List Value)),(∀es∈cs,es.length=m)→∀(k:Nat) (es:List Value),cs[k]? = some es→∀(j:Nat) (u:Value),es[j]? = some u→cs.flatten[k*m+j]? = some u
 | [],_,k,es,h,j,u,hu=>by simp at h
 | c::cs,hl,0,es,h,j,u,hu=>by
  simp at h
  subst h
  rw[List.flatten_cons,Nat.zero_mul,Nat.zero_add,List.getElem?_append_left (List.getElem?_eq_some_iff.1 hu).1,hu]
 | c::cs,hl,k+1,es,h,j,u,hu=>by
  have hc:=hl c (by simp)
  rw[List.flatten_cons,List.getElem?_append_right (by rw[hc,Nat.succ_mul];omega),hc,Nat.succ_mul,show k*m+m+j-m=k*m+j by omega]
  exact zew m cs (fun e he=>hl e (by simp[he])) k es (by simpa using h) j u hu
theorem zvI (l:List T) (cs:List (List Value)) (hc:∀(i:Nat) (x:T),l[i]? = some x→∃es,cs[i]? = some es∧E.rep w B es x) (hlen:∀es∈cs,es.length=E.size)
  (hB:w.heap.size≤B) (h:w.ownsRow base t E.size v l.length cs.flatten):zj E w B v l:=by
 rcases h.2 with⟨rfl,h0⟩ | ⟨g,cap,cur,rfl,hb,hg,hnc,_⟩
 · obtain rfl:l=[]:=List.length_eq_zero_iff.1 h0;exact zj.nil_ _ _
 refine⟨some ⟨g,0,none⟩,cap,rfl,hnc,fun k x hk=>?_⟩;obtain⟨es,he,hr⟩:=hc k x hk;have hlt:=zh hg;refine⟨g,0,es,rfl,by omega,hr,fun j u hu=>?_⟩;have hj:j<E.size:=by rw[←E.len hr];exact (List.getElem?_eq_some_iff.1 hu).1
 have hkl:k<l.length:=(List.getElem?_eq_some_iff.1 hk).1;have hlt2:k*E.size+j<l.length*E.size:=by have:(k+1)*E.size≤l.length*E.size:=Nat.mul_le_mul_right _ hkl;rw[Nat.succ_mul] at this;omega
 rw[Nat.zero_add,h.cellAt _ hlt2];exact zew _ cs hlen k es he j u hu
theorem z6d (h:w.heap[g]? = some x) (q:Addr) (u:Value) (hne:q.block≠g):(w.setCell q u).heap[g]? = some x:=(Below.heap_setCell w q u g (fun e=>hne e.symm)).trans h
theorem ztH (h:w.heap[g]? = some (.cells cs t (0,0))) (hv:cs[i]? = some v):w.setCell ⟨g,i,none⟩ v=w:=by
 have hcs:cs.setIfInBounds i v=cs:=by
  apply Array.ext_getElem?;intro j;rw[Array.getElem?_setIfInBounds];split
  · rename_i e;subst e;rw[if_pos (Array.getElem?_eq_some_iff.1 hv).1,hv]
  rfl
 have hh:(w.setCell ⟨g,i,none⟩ v).heap=w.heap:=by
  apply Array.ext_getElem?;intro j;by_cases e:j=g
  · subst e;rw[zPw h i v,h,hcs]
  exact Below.heap_setCell w ⟨g,i,none⟩ v j e
 have:w.setCell ⟨g,i,none⟩ v={ w with heap:=(w.setCell ⟨g,i,none⟩ v).heap }:=rfl;rw[this,hh]
theorem z9X {t c:Nat} {A:Option Addr} (h:w.ownsRow base t 1 (.slice A n c) n ys) (hi:i<n):∃g,A=some ⟨g,0,none⟩∧w.cell? ⟨g,i,none⟩=ys[i]? := by
 have h2:=h;obtain⟨_,h1 | ⟨g',cap',cur,e,_⟩⟩:=h
 · omega
 injection e with e1 e2 e3;subst e1 e3;exact⟨g',rfl,h2.cellAt i (by omega)⟩
end
end Go.Proofs.YtfibdoehmndinaaGreatDoor
