/- Parts of a proof, joined. No condition but those that each theorem names. -/
import Derived.Defers
import Derived.Recover
import Derived.Test.YtfibdoehmndinaaGreatDoorTfG2e14
import Derived.Test.YtfibdoehmndinaaGreatDoorTfG2e20
namespace Go.Proofs.YtfibdoehmndinaaGreatDoor
open Go.RowKit
set_option linter.unusedVariables false
set_option maxRecDepth 100000
set_option maxHeartbeats 1000000
theorem zR1 (X Y:Nat) (w:World) :
  CallsD Tryz.prog 11 #[.pointer (some ⟨X,0,none⟩),.pointer (some ⟨Y,0,none⟩)] .returning w fun e u' w'=>e=.returned (.tuple #[])∧u'=.returning∧Below w.heap.size w w':=by
 have hta:∀W:World,(Instr.typeAssert .nilIface 20 50 true).run Tryz.prog W=.ok (.tuple #[.agg #[.int .i64 0,.int .i64 0],false]) W:=fun _=>by kernel_rfl
 have hb4:=(bnew w (.cells #[.int .i64 0,.int .i64 0] 50)).grown (zC w.heap.size [.int .i64 0,.int .i64 0] (w.alloc (.cells #[.int .i64 0,.int .i64 0] 50)) 0) (by simp) (fun g e=>by injection e with e;omega);refine callsD_of_wpS Tryz.func11 rfl fun c₀ cs hu=>?_;apply wpS_seq;apply wpS_region;simp[wpOpsS,go_sem,recoverD,hu,Tryz.ntmps11,Exit.thenS,hta];refine wpS_of_wp ?_;show Code.wp _ _ _ { tmps:=#[.pointer (some ⟨X,0,none⟩),.pointer (some ⟨Y,0,none⟩),.pointer (some ⟨w.heap.size,0,none⟩),false,.tuple #[.agg #[.int .i64 0,.int .i64 0],false],.nilIface,.tuple #[.agg #[.int .i64 0,.int .i64 0],false],.agg #[.int .i64 0,.int .i64 0],false,undef,undef,undef,undef],defers:=[] } _;have HU:=hI hu;have HB:=hI (bnew w (.cells #[.int .i64 0,.int .i64 0] 50));clear hu hb4;generalize w.alloc _=w1 at *;generalize w.heap.size=Z at *;generalize hPO:(fun (e:Ending) (u':FrameMode) (w':World)=>e=.returned (.tuple #[])∧u'=.returning∧Below Z w w')=PO;have HPO:=hI hPO;clear hPO;go_wp2_with fail;simp only[bodyPostS];refine⟨trivial,c₀.mode,by cases c₀;rfl,.tuple #[],by simp[results,Tryz.results11,go_sem],?_⟩;rw[←HPO.o];exact⟨rfl,HU.o,HB.o⟩
theorem zgd (X Y:Nat) (E P:Int) (v0:Value) (w:World) (hX:w.heap[X]? = some (.cells #[v0] 24 (0,0))) (hY:∃a b,w.heap[Y]? = some (.cells #[a,b] 27 (0,0))) (hne:X≠Y) :
  CallsD Tryz.prog 11 #[.pointer (some ⟨X,0,none⟩),.pointer (some ⟨Y,0,none⟩)] (.panicking [{ v:=zci E P,recovered:=false }]) w fun e u' w'=>e=.returned (.tuple #[])∧u'=.panicking [{ v:=zci E P,recovered:=true }] ∧
   w'.heap[X]? = some (.cells #[.slice none 0 0] 24 (0,0))∧w'.heap[Y]? = some (.cells #[E,P] 27 (0,0))∧Kp (fun x=>x=X∨x=Y) w w':=by
 obtain⟨a,b,hY⟩:=hY
 unfold zci
 have hta:∀W:World,(Instr.typeAssert (.iface 50 (.agg #[E,P])) 20 50 true).run Tryz.prog W=.ok (.tuple #[.agg #[E,P],true]) W:=fun _=>by kernel_rfl
 have HX0:=hI hX
 have HY0:=hI hY
 have HNE:=hI hne
 clear hX hY hne
 refine callsD_of_wpS Tryz.func11 rfl fun c₀ cs hu=>?_
 apply wpS_seq
 apply wpS_region
 simp[wpOpsS,go_sem,recoverD,hu,Tryz.ntmps11,Exit.thenS,hta]
 have ht:(#[Value.pointer (some ⟨X,0,none⟩),Value.pointer (some ⟨Y,0,none⟩)]++(((((((Array.replicate 11 undef).setIfInBounds 3 (Value.iface 50 (.agg #[Value.int .i64 E,Value.int .i64 P]))).setIfInBounds 4 (.tuple #[.agg #[Value.int .i64 E,Value.int .i64 P],.bool true])).setIfInBounds 2 (.tuple #[.agg #[Value.int .i64 E,Value.int .i64 P],.bool true])).setIfInBounds 5 (.agg #[Value.int .i64 E,Value.int .i64 P])).setIfInBounds 6 (.bool true)).setIfInBounds 0 (.pointer (some ⟨w.heap.size,0,none⟩))).setIfInBounds 1 (.bool true):Array Value)=#[.pointer (some ⟨X,0,none⟩),.pointer (some ⟨Y,0,none⟩),.pointer (some ⟨w.heap.size,0,none⟩),.bool true,.tuple #[.agg #[Value.int .i64 E,Value.int .i64 P],.bool true],.iface 50 (.agg #[Value.int .i64 E,Value.int .i64 P]),.tuple #[.agg #[Value.int .i64 E,Value.int .i64 P],.bool true],.agg #[Value.int .i64 E,Value.int .i64 P],.bool true,undef,undef,undef,undef]:=by kernel_rfl
 rw[ht]
 clear ht
 refine wpS_of_wp ?_
 have HZ:=hI (heap_alloc_new w (.cells #[E,P] 50))
 have hb1:=bnew w (.cells #[E,P] 50)
 have hxl:=zh HX0.o
 have hyl:=zh HY0.o
 have HX:=hI ((hb1.block X hxl).trans HX0.o)
 have HY:=hI ((hb1.block Y hyl).trans HY0.o)
 have HK:Jd (Kp (fun x=>x=X∨x=Y) w (w.alloc (.cells #[E,P] 50))):=hI (Kp.of_below hb1)
 have HZX:Jd (w.heap.size≠X∧w.heap.size≠Y):=hI ⟨by omega,by omega⟩
 have HU:=hI hu
 clear hu hb1 hxl hyl hta
 generalize w.alloc _=v1 at *
 obtain⟨Z,hZ⟩:∃Z,w.heap.size=Z:=⟨_,rfl⟩
 rw[hZ] at HZ HZX ⊢
 clear hZ
 generalize hPO:(fun (e:Ending) (u':FrameMode) (w':World)=>e=.returned (.tuple #[])∧u'=.panicking [{ v:=.iface 50 (.agg #[E,P]),recovered:=true }]∧w'.heap[X]? = some (.cells #[.slice none 0 0] 24 (0,0))∧w'.heap[Y]? = some (.cells #[E,P] 27 (0,0))∧Kp (fun x=>x=X∨x=Y) w w')=PO
 have HPO:=hI hPO
 clear hPO
 go_upto_region 2 with (fail)
 refine wL (fun w'=>w'.heap[Z]? = some (.cells #[E,P] 50 (0,0))) 99 ?_
 have HZd:Jd (v1.drew.heap[Z]? = _):=hI HZ.o
 have HXd:Jd (v1.drew.heap[X]? = _):=hI HX.o
 have HYd:Jd (v1.drew.heap[Y]? = _):=hI HY.o
 have HKd:=hI (HK.o.trans (Kp.of_below (bdr (Below.refl _ _))) (fun _ _ h=>h))
 clear HZ HX HY HK
 generalize v1.drew=v1 at *
 refine zM8 (i:=0) (some 10) (.agg #[.slice none 0 0]) rfl rfl (by kernel_rfl) (by kernel_rfl) (by kernel_rfl) (by kernel_rfl) (fun _ _ _ h=>h) (by rfl) ?hv1_0 HZd.o ?rest1_0
 case hv1_0 =>
  intro wz hSz
  go_simp
 try simp only[Act.put,pA,pB,pC]
 refine zM8 (i:=1) (some 11) (.pointer (some ⟨Z,0,none⟩)) rfl rfl (by kernel_rfl) (by kernel_rfl) (by kernel_rfl) (by kernel_rfl) (fun _ _ _ h=>h) (by rfl) ?hv2_1 HZd.o ?rest2_1
 case hv2_1 =>
  intro wz hSz
  go_simp
 try simp only[Act.put,pA,pB,pC]
 refine zM8 (i:=2) (some 12) (.agg #[E,P]) rfl rfl (by kernel_rfl) (by kernel_rfl) (by kernel_rfl) (by kernel_rfl) (fun _ _ _ h=>h) (by rfl) ?hv3_2 HZd.o ?rest3_2
 case hv3_2 =>
  intro wz hSz
  have c_:=cb2 (hSz)
  go_simp
 try simp only[Act.put,pA,pB,pC]
 obtain⟨x0,xf0⟩:=zz HXd.o 0
 refine wone 3 fun K hK=>?_
 go_simp
 have HZ3:=hI ((Below.heap_setCell v1 ⟨X,0,none⟩ (.slice none 0 0) Z (by have:=HZX.o.1;exact this)).trans HZd.o)
 have HX3:Jd ((v1.setCell ⟨X,0,none⟩ (.slice none 0 0)).heap[X]? = some (.cells #[.slice none 0 0] 24 (0,0))):=hI (by simpa using zPw HXd.o 0 (.slice none 0 0))
 have HY3:=hI ((Below.heap_setCell v1 ⟨X,0,none⟩ (.slice none 0 0) Y (by have:=HNE.o;exact fun e=>this e.symm)).trans HYd.o)
 have HK3:=hI (HKd.o.set (a:=⟨X,0,none⟩) (.slice none 0 0) (Or.inl (Or.inl rfl)))
 clear x0 xf0
 generalize v1.setCell _ _=v1 at *
 refine hK.o _ _ (fun _=>HZ3.o) ?_
 clear hK
 try simp only[Act.put,pA,pB,pC]
 obtain⟨y0,yf0⟩:=zz HY3.o 0
 obtain⟨y1,yf1⟩:=zz HY3.o 1
 refine wone 4 fun K hK=>?_
 go_simp
 have hse:setL v1 Y 0 [E,P]=(v1.setCell ⟨Y,0,none⟩ (.int .i64 E)).setCell ⟨Y,1,none⟩ (.int .i64 P):=rfl
 rw[←hse]
 clear hse
 have HG4:=zC Y [E,P] v1 0
 have HY4:=hI (zdc [E,P] HY3.o rfl)
 have HX4:=hI ((HG4.block X (zh HX3.o) (fun e=>by injection e with e;exact HNE.o e)).trans HX3.o)
 have HZ4:=hI ((HG4.block Z (zh HZ3.o) (fun e=>by injection e with e;exact HZX.o.2 e)).trans HZ3.o)
 have HK4:Jd (Kp (fun x=>x=X∨x=Y) w (setL v1 Y 0 [E,P])):=hI ((HK3.o.set _ (Or.inl (Or.inr rfl))).set _ (Or.inl (Or.inr rfl)))
 clear y0 yf0 y1 yf1 HG4
 generalize setL v1 Y 0 _=v1 at *
 refine hK.o _ _ (fun _=>HZ4.o) ?_
 clear hK
 try simp only[Act.put,pA,pB,pC]
 refine wD ?_ _
 go_wp2_with fail
 simp only[bodyPostS]
 refine⟨trivial,.panicking [{ v:=.iface 50 (.agg #[E,P]),recovered:=true }],rfl,.tuple #[],by simp[results,Tryz.results11,go_sem],?_⟩
 rw[←HPO.o]
 exact⟨rfl,rfl,HX4.o,HY4.o,HK4.o⟩
section
variable {w:World}
section
variable {p:Prop}
theorem uZ6 (h:p:=by
 refine⟨.tuple #[.agg #[.slice none 0 0],.agg #[E,P]],by simp[results,Tryz.results4,go_sem,x0,y_];try rfl,?_⟩;rw[←HPO.o,←HRN.o];exact⟨HBn.o,E,P,rfl,HE.o⟩):p:=h
end
theorem zmr {P:Program} {fn:Func} {t t':Array Value} {R:Ending→World→Prop} (h:results fn t=results fn t'):∀(ds:List Deferred) (u:FrameMode) (w:World),Leaves P fn t R ds u w→Leaves P fn t' R ds u w
 | [],.returning,w,hl=>by
  obtain⟨v,h1,h2⟩:=hl
  exact⟨v,by rw[←h];exact h1,h2⟩
 | [],.panicking chain,w,hl=>hl
 | [],.run,w,hl=>hl.elim
 | d::ds,u,w,hl=>by
  obtain⟨hu,fv,cap,f,args,h1,h2,h3⟩:=hl
  refine⟨hu,fv,cap,f,args,h1,h2,h3.mono fun e u' w' he=>?_⟩
  cases e with
  | returned v=>exact zmr h ds _ _ he
  | panicked chain=>exact zmr h ds _ _ he
  | outgrown=>exact he
theorem zQP {k:Nat} (hk:k≠2∧k≠3) {PO:Ending→World→Prop} {c:List PanicEntry} {a:Act} {v:Value} (h:bodyPostD Tryz.prog Tryz.f4 PO (.panic c) (a.put (some k) v) w):bodyPostD Tryz.prog Tryz.f4 PO (.panic c) a w:=by
 refine zmr ?_ _ _ _ h;show results _ (a.tmps.setIfInBounds k v)=_;unfold results;have h2:(a.tmps.setIfInBounds k v)[2]? = a.tmps[2]? := Array.getElem?_setIfInBounds_ne hk.1;have h3:(a.tmps.setIfInBounds k v)[3]? = a.tmps[3]? := Array.getElem?_setIfInBounds_ne hk.2;rw[Tryz.results4];simp[h2,h3]
theorem PsAt.setLow {q:Nat} {A:Option Addr} {c:Nat} {l:List TTk} {i d:Nat} (h:PsAt w q A c l i d) {X:Nat} (hX:X≠q) (hA:∀b off,A=some ⟨b,off,none⟩→b≠X) (k:Nat) (u:Value):PsAt (w.setCell ⟨X,k,none⟩ u) q A c l i d:=by
 refine⟨(Below.heap_setCell w ⟨X,k,none⟩ u q (fun e=>hX e.symm)).trans h.blk,?_,h.pos,h.dep,h.ok⟩;obtain⟨A',c',e,hc,hx⟩:=h.tok;injection e with e1 e2 e3;subst e1;refine⟨A,c',by rw[e3],hc,fun k2 t hk=>?_⟩;obtain⟨b,off,es,e4,h1,h2,h3⟩:=hx k2 t hk;exact⟨b,off,es,e4,h1,h2,fun j v hv=>by rw[World.cell?_of_block (Below.heap_setCell w ⟨X,k,none⟩ u b (hA b off e4))];exact h3 j v hv⟩
theorem z5C {Y:Nat} {a b:Value} {t:TypeId} (h:w.heap[Y]? = some (.cells #[a,b] t (0,0))):setL w Y 0 [a,b]=w:=by
 show (w.setCell ⟨Y,0,none⟩ a).setCell ⟨Y,1,none⟩ b=w;have h1:w.setCell ⟨Y,0,none⟩ a=w:=ztH h rfl;rw[h1];exact ztH h rfl
theorem zQo (a b c:Int) (s:ByteArray) (W:World):(Instr.field 56 (.agg #[a,b,c,s]) 0).run Tryz.prog W=.ok (.int .i64 a) W:=by kernel_rfl
def zXX (W:World) (R:Option (List TFu)) (e:Ending) (w':World):Prop:=Below W.heap.size W w'∧match R with
 | some p=>∃A c,e=.returned (.tuple #[.agg #[.slice A p.length c],.agg #[.int .i64 0,.int .i64 0]])∧zj fuE w' w'.heap.size (.slice A p.length c) p∧p.length≤65537
 | none=>∃E P,e=.returned (.tuple #[.agg #[.slice none 0 0],.agg #[.int .i64 E,.int .i64 P]])∧E≠0
theorem zNM (s:ByteArray) (W:World) (h:SpaceTab W):Calls Tryz.prog 4 #[s] W (zXX W (zOx s)):=by
 have HX:=hI (za3 (heap_alloc_new W (.cells #[.slice none 0 0] 24)) (.cells #[.int .i64 0,.int .i64 0] 27));have HY0:=heap_alloc_new (W.alloc (.cells #[.slice none 0 0] 24)) (.cells #[.int .i64 0,.int .i64 0] 27);have hs:(W.alloc (.cells #[.slice none 0 0] 24)).heap.size=W.heap.size+1:=by simp
 rw[hs] at HY0;have HY:=hI HY0;have HB:=hI (bal (bnew W (.cells #[.slice none 0 0] 24)) (.cells #[.int .i64 0,.int .i64 0] 27));have HT:=hI (zG h HB.o);obtain⟨R,hR⟩:∃R,zOx s=R:=⟨_,rfl⟩
 rw[hR];have HR:=hI hR;generalize hPO:zXX W R=PO;have HPO:=hI hPO;have hmf:∀(fn:Fn) (first cap:Array Value) (w:World),(Instr.makeFunc fn first cap).run Tryz.prog w=.ok (.func fn first cap) w:=fun _ _ _ _=>rfl;clear hR hPO h HY0 hs;go_enter_defers Tryz.func4,Tryz.ntmps4;go_upto_region 1 with (fail);generalize (W.alloc _).alloc _=v1 at *;obtain⟨X,hX⟩:∃X,W.heap.size=X:=⟨_,rfl⟩
 rw[hX] at HX HY ⊢;have HXE:=hI hX;clear hX;obtain⟨Y,hY⟩:∃Y,X+1=Y:=⟨_,rfl⟩
 rw[hY] at HY ⊢;have HXY:Jd (X<Y):=hI (by omega);clear hY;go_wp2_with fail;refine (zXa s v1 HT.o).mono ?_;intro e v1 hpost;obtain⟨hb,hpost⟩:=hpost;have HX2:=hI ((hb.block X (zh HX.o)).trans HX.o);have HY2:=hI ((hb.block Y (zh HY.o)).trans HY.o);have HB2:=hI (HB.o.trans (hb.mono HB.o.size));have hrt:=HR.o;unfold zOx at hrt;have HY1:=HY;clear HX HY HB hb;cases hq:lexS s
 case none =>
  rw[hq] at hpost hrt;have HRN:Jd (none=R):=hI hrt;obtain⟨v,E,P,rfl,hE⟩:=hpost;have qE:(E != 0)=true:=nC hE;have HE:=hI hE;clear hrt hq hE;obtain⟨⟨y0,yf0⟩,y1,yf1⟩:=cb2 HY2.o;go_upto_region 2 with (fail);clear y0 yf0 y1 yf1;have hse:setL v1 Y 0 [E,P]=(v1.setCell ⟨Y,0,none⟩ (.int .i64 E)).setCell ⟨Y,1,none⟩ (.int .i64 P):=rfl;rw[←hse];clear hse;have hg:=zC Y [E,P] v1 0;have HYn:=hI (zdc [E,P] HY2.o rfl);have HXn:=hI ((hg.block X (zh HX2.o) (fun e=>by injection e with e;have:=HXY.o;omega)).trans HX2.o);have HBn:=hI (HB2.o.grown hg HB2.o.size (fun r e=>by injection e with e;have:=HXE.o;have:=HXY.o;omega));clear hg HX2 HY2 HB2;generalize setL v1 Y 0 _=v2 at *;obtain⟨y0,yf0⟩:=zz HYn.o 0;go_upto_region 3 with (fail);clear y0 yf0 qE;refine wL (fun w'=>w'.heap[Y]? = some (.cells #[E,P] 27 (0,0))) 99 ?_;have HYd:Jd (v2.drew.heap[Y]? = _):=hI HYn.o;have HXd:Jd (v2.drew.heap[X]? = _):=hI HXn.o;have HBd:=hI (bdr HBn.o);clear HYn HXn HBn;generalize v2.drew=v3 at *;refine zM8 (i:=0) (some 14) (.agg #[.slice none 0 0]) rfl rfl (by kernel_rfl) (by kernel_rfl) (by kernel_rfl) (by kernel_rfl) (fun _ _ _ h=>zQP (by decide) h) (by rfl) ?hv1_0 HYd.o ?rest1_0
  case hv1_0=>intro wz hSz;go_simp
  try simp only[Act.put,pA,pB,pC]
  refine zM8 (i:=1) (some 15) (.agg #[E,P]) rfl rfl (by kernel_rfl) (by kernel_rfl) (by kernel_rfl) (by kernel_rfl) (fun _ _ _ h=>zQP (by decide) h) (by rfl) ?hv2_1 HYd.o ?rest2_1
  case hv2_1=>intro wz hSz;have c_:=cb2 (hSz);go_simp
  try simp only[Act.put,pA,pB,pC]
  obtain⟨x0,xf0⟩:=zz HXd.o 0;refine wone 2 fun K hK=>?_;go_simp;have HY5:=hI ((Below.heap_setCell v3 ⟨X,0,none⟩ (.slice none 0 0) Y (by have:=HXY.o;show Y≠X;omega)).trans HYd.o);have HX5:Jd ((v3.setCell ⟨X,0,none⟩ (.slice none 0 0)).heap[X]? = some (.cells #[.slice none 0 0] 24 (0,0))):=hI (by simpa using zPw HXd.o 0 (.slice none 0 0));have HB5:=hI (HBd.o.setCell (p:=⟨X,0,none⟩) (by have:=HXE.o;show W.heap.size≤X;omega) (.slice none 0 0));clear x0 xf0 HXd HYd HBd;generalize v3.setCell _ _=v4 at *;refine hK.o _ _ (fun _=>HY5.o) ?_;clear hK;try simp only[Act.put,pA,pB,pC]
  have y_:=cb2 HY5.o;refine wone 3 fun K hK=>?_;go_simp;clear y_;have hse:setL v4 Y 0 [E,P]=(v4.setCell ⟨Y,0,none⟩ (.int .i64 E)).setCell ⟨Y,1,none⟩ (.int .i64 P):=rfl;rw[←hse];clear hse;have hg:=zC Y [E,P] v4 0;have HYn:=hI (zdc [E,P] HY5.o rfl);have HXn:=hI ((hg.block X (zh HX5.o) (fun e=>by injection e with e;have:=HXY.o;omega)).trans HX5.o);have HBn:=hI (HB5.o.grown hg HB5.o.size (fun r e=>by injection e with e;have:=HXE.o;have:=HXY.o;omega));clear hg HX5 HY5 HB5;generalize setL v4 Y 0 _=v5 at *;refine hK.o _ _ (fun _=>HYn.o) ?_;clear hK;try simp only[Act.put,pA,pB,pC]
  refine wD ?_ _;obtain⟨x0,xf0⟩:=zz HXn.o 0;have y_:=cb2 HYn.o;go_wp2_with fail;exact uZ6
 rename_i l;rw[hq] at hpost hrt;simp only at hrt;replace HR:=hI hrt;have HLO:=hI (zkU hq);obtain⟨A,c,rfl,hsl,hfr⟩:=hpost;have HSL:=hI hsl;have HFR:Jd (∀b off,A=some ⟨b,off,none⟩→Y<b):=hI (fun b off hA=>Nat.lt_of_lt_of_le (zh HY1.o) (hfr b off hA));have HSZ0:=hI (zh HY2.o);clear hrt hq hsl hfr;obtain⟨⟨y0,yf0⟩,y1,yf1⟩:=cb2 HY2.o;go_upto_region 2 with (fail);clear y0 yf0 y1 yf1;have HSL3:Jd (zj z6f (setL v1 Y 0 [.int .i64 0,.int .i64 0]) v1.heap.size (.slice A l.length c) l):=hI (HSL.o.keep (Nat.le_refl _) (fun p hp=>by rw[z5C HY2.o]));have HSZ:Jd (v1.heap.size≤(setL v1 Y 0 [.int .i64 0,.int .i64 0]).heap.size):=hI (by rw[z5C HY2.o];exact Nat.le_refl _);clear HSL;have hse:setL v1 Y 0 [.int .i64 0,.int .i64 0]=(v1.setCell ⟨Y,0,none⟩ (.int .i64 0)).setCell ⟨Y,1,none⟩ (.int .i64 0):=rfl;rw[←hse];clear hse;have hg:=zC Y [.int .i64 0,.int .i64 0] v1 0;have HYn:=hI (zdc [.int .i64 0,.int .i64 0] HY2.o rfl);have HXn:=hI ((hg.block X (zh HX2.o) (fun e=>by injection e with e;have:=HXY.o;omega)).trans HX2.o);have HBn:=hI (HB2.o.grown hg HB2.o.size (fun r e=>by injection e with e;have:=HXE.o;have:=HXY.o;omega));clear hg HX2 HY2 HB2;generalize setL v1 Y 0 _=v2 at *;have HP:Jd (PsAt (v2.alloc (.cells #[.slice A l.length c,.int .i64 0,.int .i64 0] 54)) v2.heap.size A c l 0 0):=hI ⟨heap_alloc_new v2 _,HSL3.o.keep HSZ.o (fun p hp=>(bnew v2 (.cells #[.slice A l.length c,.int .i64 0,.int .i64 0] 54)).cell (by have:=HSZ.o;omega)),HLO.o.2.1,Nat.zero_le _,HLO.o.1⟩;have HX4:=hI (((bnew v2 (.cells #[.slice A l.length c,.int .i64 0,.int .i64 0] 54)).block X (zh HXn.o)).trans HXn.o);have HY4:=hI (((bnew v2 (.cells #[.slice A l.length c,.int .i64 0,.int .i64 0] 54)).block Y (zh HYn.o)).trans HYn.o);have HB4:=hI (bal HBn.o (.cells #[.slice A l.length c,.int .i64 0,.int .i64 0] 54));have HYQ:=hI (zh HYn.o);have HRW:Jd (z2u fuE (v2.alloc (.cells #[.slice A l.length c,.int .i64 0,.int .i64 0] 54)) (v2.heap.size+1) 61 (.slice none 0 0) []):=hI (z2u.nil_ (by simp));obtain⟨y0,yf0⟩:=zz HYn.o 0;go_wp2_with fail;clear y0 yf0 hmf HXn HYn HBn HSL3 HSZ;generalize v2.alloc _=v3 at *;generalize v2.heap.size=q at HP HRW HYQ ⊢;go_loopw [20] (fun _ wr=>∃(f i:Nat) (acc:List TFu) (v:Value),PsAt wr q A c l i 0∧wr.heap[X]? = some (.cells #[v] 24 (0,0))∧wr.heap[Y]? = some (.cells #[.int .i64 0,.int .i64 0] 27 (0,0))∧z2u fuE wr (q+1) 61 v acc∧Below W.heap.size W wr∧Jd ((zH3 l (16*l.length+64) f acc i 0).map (fun x=>x.1)=R)∧l.length-i+1≤f∧acc.length≤i) (fun _ wr=>l.length-zyK q wr)
 case atStart=>exact⟨l.length+1,0,[],_,HP.o,HX4.o,HY4.o,HRW.o,HB4.o,HR,by omega,Nat.le_refl _⟩
 case round =>
  clear HP HX4 HY4 HRW HB4 HR;obtain⟨f2,i,acc,v,hp,hx,hy,hrow,hb,HR,hf,ha⟩:=hrel;have HP:=hI hp;have HP0:=HP;have HX:=hI hx;have HY:=hI hy;have HRW:=hI hrow;have HB:=hI hb;have HFA:=hI (And.intro hf ha);clear hp hx hy hrow hb hf ha;obtain⟨f,rfl⟩:∃f3,f2=f3+1:=⟨f2-1,by have:=HFA.o.1;omega⟩
  unfold zH3 at HR;obtain⟨AA,ca,hAA⟩:=HRW.o.len;subst hAA;have HC:=hI (zkz HP.o);obtain⟨t,ht⟩:∃t,zb2 l i=t:=⟨_,rfl⟩
  have hrt:=HR.o;rw[ht] at HC hrt;obtain⟨tk1,tp1,tn1,tt1⟩:=t;unfold zL at HC;simp only at HC hrt;replace HR:=hI hrt;clear hrt ht;have hfl:=fun W=>zQo tk1 tp1 tn1 tt1 W;go_wp2_with fail;refine (HC.o).mono ?_;rintro e v4 ⟨rfl,hbb⟩;replace HX:=hI ((hbb.block X (zh HX.o)).trans HX.o);replace HY:=hI ((hbb.block Y (zh HY.o)).trans HY.o);replace HRW:=hI (HRW.o.step (zeK (r:=none) hbb) (by simp));replace HB:=hI (HB.o.trans (hbb.mono HB.o.size));replace HP:=hI (HP.o.below hbb);clear hbb HC;by_cases hk:tk1=0
  · subst hk;rw[if_pos rfl] at HR;obtain⟨x0,xf0⟩:=zz HX.o 0;have y_:=cb2 HY.o;have z_:=cb2 (z6d HY.o ⟨X,0,none⟩ (.slice AA acc.length ca) (by have:=HXY.o;show X≠Y;omega));go_wp2_with fail;clear x0 xf0 hfl y_ z_;have hse:setL (v4.setCell ⟨X,0,none⟩ (.slice AA acc.length ca)) Y 0 [.int .i64 0,.int .i64 0]=((v4.setCell ⟨X,0,none⟩ (.slice AA acc.length ca)).setCell ⟨Y,0,none⟩ (.int .i64 0)).setCell ⟨Y,1,none⟩ (.int .i64 0):=rfl;rw[←hse];clear hse;have hsx:v4.setCell ⟨X,0,none⟩ (.slice AA acc.length ca)=v4:=ztH HX.o rfl;rw[hsx,z5C HY.o];clear hsx;refine leaves_cons (f := 11) (args:=#[.pointer (some ⟨X,0,none⟩),.pointer (some ⟨Y,0,none⟩)]) (by simp) (by simp[go_sem]) ?_;refine (zR1 X Y v4).mono ?_;rintro e u' v5 ⟨rfl,rfl,hb6⟩;have HXn:=hI ((hb6.block X (zh HX.o)).trans HX.o);have HYn:=hI ((hb6.block Y (zh HY.o)).trans HY.o);have HRn:=hI (HRW.o.step (zeK (r:=none) hb6) (by simp));have HBn:=hI (HB.o.trans (hb6.mono HB.o.size));obtain⟨x0,xf0⟩:=zz HXn.o 0;have y_:=cb2 HYn.o;refine⟨.tuple #[.agg #[.slice AA acc.length ca],.agg #[.int .i64 0,.int .i64 0]],by simp[results,Tryz.results4,go_sem,x0,y_];try rfl,?_⟩;rw[←HPO.o,←HR.o];exact⟨HBn.o,AA,ca,rfl,(HRn.o.done zBF).plain zBF (Nat.le_refl _),by show acc.length≤65537;have:=HFA.o.2;have:=HP0.o.pos;have:=HLO.o.1.1;omega⟩
  have qk:(tk1 != 0)=true:=nC hk;rw[if_neg hk] at HR;clear hk;go_upto_region 7 with (fail);refine wL (fun w'=>w'.heap[X]? = some (.cells #[.slice AA acc.length ca] 24 (0,0))) 7 ?_;clear qk hfl;have HXd:Jd (v4.drew.heap[X]? = _):=hI HX.o;have HYd:Jd (v4.drew.heap[Y]? = _):=hI HY.o;have HRd:=hI (HRW.o.step (zeK (r:=none) (bdr (Below.refl v4.heap.size v4))) (by simp));have HBd:=hI (bdr HB.o);replace HP:=hI (HP.o.below (bdr (Below.refl _ _)));clear HX HY HRW HB;generalize v4.drew=v5 at *;refine zM8 (i:=0) (some 24) (.pointer (some ⟨X,0,none⟩)) rfl rfl (by kernel_rfl) (by kernel_rfl) (by kernel_rfl) (by kernel_rfl) (fun _ _ _ h=>zQP (by decide) h) (by rfl) ?hv3_0 HXd.o ?rest3_0
  case hv3_0=>intro wz hSz;go_simp
  try simp only[Act.put,pA,pB,pC]
  refine zM8 (i:=1) (some 25) (.slice AA acc.length ca) rfl rfl (by kernel_rfl) (by kernel_rfl) (by kernel_rfl) (by kernel_rfl) (fun _ _ _ h=>zQP (by decide) h) (by rfl) ?hv4_1 HXd.o ?rest4_1
  case hv4_1=>exact uS2
  try simp only[Act.put,pA,pB,pC]
  refine zM8 (i:=2) (some 26) (.pointer (some ⟨q,0,none⟩)) rfl rfl (by kernel_rfl) (by kernel_rfl) (by kernel_rfl) (by kernel_rfl) (fun _ _ _ h=>zQP (by decide) h) (by rfl) ?hv5_2 HXd.o ?rest5_2
  case hv5_2=>intro wz hSz;go_simp
  try simp only[Act.put,pA,pB,pC]
  refine wone 3 fun K hK=>?_;go_simp;refine (zJC (16*l.length+64) HP.o (by have:=HP.o.pos;omega)).mono ?_;intro e v1 hpost;cases hq:zcN l (16*l.length+64) i 0
  case none=>rw[hq] at hpost;obtain⟨⟨E,P,rfl,hE⟩,hk⟩:=hpost;have hrt:=HR.o;rw[hq] at hrt;simp only[zw,Option.map_none] at hrt;have HRN:=hI hrt;have hX7:=hk.blk X _ (fun e=>by have e2:X=q:=e;have:=HXY.o;have:=HYQ.o;omega) HXd.o;have hY7:=hk.blk Y _ (fun e=>by have e2:Y=q:=e;have:=HYQ.o;omega) HYd.o;have HB7:=hI (HBd.o.grown (kpg hk) HBd.o.size (fun r e=>by injection e with e;have:=HXE.o;have:=HXY.o;have:=HYQ.o;omega));have HE:=hI hE;clear hrt hq hk hE;show Leaves _ _ _ _ _ _ _;refine leaves_cons (f := 11) (args:=#[.pointer (some ⟨X,0,none⟩),.pointer (some ⟨Y,0,none⟩)]) (by simp) (by simp[go_sem]) ?_;refine (zgd X Y E P _ v1 hX7 ⟨_,_,hY7⟩ (by have:=HXY.o;omega)).mono ?_;rintro e u' v2 ⟨rfl,rfl,hX8,hY8,hk8⟩;have HXn:=hI hX8;have HYn:=hI hY8;have HBn:=hI (HB7.o.trans (hk8.below HB7.o.size (fun x hx=>by have:=HXE.o;have:=HXY.o;rcases hx with rfl | rfl <;> omega)));obtain⟨x0,xf0⟩:=zz HXn.o 0;have y_:=cb2 HYn.o;exact uZ6
  rename_i x;rw[hq] at hpost;obtain⟨⟨gp,gn,gps,gh,⟨gte,gtl,gtb⟩,gb⟩,j,d2⟩:=x;obtain⟨⟨u,rfl,hR⟩,hp,hk,hdd,hij⟩:=hpost;obtain rfl:d2=0:=hdd;rw[hq] at HR;simp only[zB] at HR;have HIJ:Jd (i+1≤j):=hI hij;obtain⟨hsm,vp,vb,hu,hT1,hT2⟩:=hR;have hT1:zj zGc _ _ vp gps:=hT1;have hT2:zj stE _ _ vb gb:=hT2;obtain⟨pA,pc,hv,_⟩:=hT1.shape;subst hv;obtain⟨bA,bc,hv,_⟩:=hT2.shape;subst hv;replace hu:u=.agg #[gp,gn,.slice pA gps.length pc,gh,gte,gtl,gtb,.slice bA gb.length bc]:=hu;subst hu;have hrow2:=HRd.o.step (kpg hk) (fun g e=>by injection e with e;left;omega);have hown:∀g,(Value.slice AA acc.length ca).ownBlock=some g→g<v5.heap.size:=fun g hg=>(HRd.o.own g hg).2;have hfar:∀g,(Value.slice AA acc.length ca).ownBlock=some g→q<g:=fun g hg=>(HRd.o.own g hg).1;obtain⟨v',v2,hrun,hrow4,hg4⟩:=hrow2.app 22 61 (.agg #[.int .i64 0,.string ⟨#[]⟩,.slice none 0 0,false,.int .i64 0,.int .i64 0,.int .i64 0,.slice none 0 0]) 8 104 rfl Tryz.underlying22 (by kernel_rfl) (by rfl) (by decide) (by decide) (by have:=HFA.o;have:=HP0.o.pos;have:=HLO.o.1.1;omega) (es:=[gp,gn,.slice pA gps.length pc,gh,gte,gtl,gtb,.slice bA gb.length bc]) (x:=(TFu.mk gp gn gps gh ⟨gte,gtl,gtb⟩ gb)) (n:=v5.heap.size) (B:=v1.heap.size) (zKi hsm hT1 hT2) (by intro u hu;simp at hu;rcases hu with rfl | rfl | rfl | rfl | rfl | rfl | rfl | rfl <;> rfl) (by have:=HP.o.lt;omega) (Nat.le_refl _) (fun g hg=>Or.inl (hown g hg));obtain⟨A8,c8,hv8⟩:=hrow4.len;rw[List.length_append,List.length_singleton] at hv8;subst hv8;have hb7:=bnew v1 (.cells ([gp,gn,.slice pA gps.length pc,gh,gte,gtl,gtb,.slice bA gb.length bc]:List Value).toArray 61);have hX7:=hk.blk X _ (fun e=>by have e2:X=q:=e;have:=HXY.o;have:=HYQ.o;omega) HXd.o;have hY7:=hk.blk Y _ (fun e=>by have e2:Y=q:=e;have:=HYQ.o;omega) HYd.o;have HXk:=hI hX7;have HX7:=hI ((hb7.block X (zh hX7)).trans hX7);have HY7:=(hb7.block Y (zh hY7)).trans hY7;have HX8:=hI ((hg4.block X (zh HX7.o) (fun e=>by have:=hfar X e.symm;have:=HXY.o;have:=HYQ.o;omega)).trans HX7.o);have HY8:=hI ((hg4.block Y (zh HY7) (fun e=>by have:=hfar Y e.symm;have:=HYQ.o;omega)).trans HY7);have HP8:Jd (PsAt v2 q A c l j 0):=hI ((hp.below hb7).keep hg4 (fun g e=>hfar g e));have hB7:=HBd.o.grown (kpg hk) HBd.o.size (fun r e=>by injection e with e;have:=HXE.o;have:=HXY.o;have:=HYQ.o;omega);have HB8:=hI ((bal hB7 (.cells ([gp,gn,.slice pA gps.length pc,gh,gte,gtl,gtb,.slice bA gb.length bc]:List Value).toArray 61)).grown hg4 (bal hB7 (.cells ([gp,gn,.slice pA gps.length pc,gh,gte,gtl,gtb,.slice bA gb.length bc]:List Value).toArray 61)).size (fun r e=>by have:=hfar r e;have:=HXE.o;have:=HXY.o;have:=HYQ.o;omega));have HRW8:=hI hrow4;have HRUN:=hI hrun;clear hq hp hk hij hrow2 hown hrun hrow4 hg4 hfar hb7 hX7 hY7 HY7 hB7 hT1 hT2 hsm;refine hK.o _ _ (fun _=>HXk.o) ?_;clear hK;try simp only[Act.put,pA,pB,pC]
  refine wone 4 fun K hK=>?_;go_simp;refine hK.o _ _ (fun _=>HX7.o) ?_;clear hK;try simp only[Act.put,pA,pB,pC]
  refine zOF (i:=5) (by kernel_rfl) rfl ?_;intro K hK;refine z50 rfl (.tmp 25) (.tmp 28) 22 rfl HRUN.o rfl rfl ?_;refine hK.o _ _ (fun _=>HX8.o) ?_;clear hK;try simp only[Act.put,pA,pB,pC]
  refine zM8 (i:=6) (some 30) (.pointer (some ⟨X,0,none⟩)) rfl rfl (by kernel_rfl) (by kernel_rfl) (by kernel_rfl) (by kernel_rfl) (fun _ _ _ h=>zQP (by decide) h) (by rfl) ?hv6_6 HX8.o ?rest6_6
  case hv6_6=>intro wz hSz;go_simp
  try simp only[Act.put,pA,pB,pC]
  obtain⟨x0,xf0⟩:=zz HX8.o 0;refine wone 7 fun K hK=>?_;go_simp;have HX9:Jd ((v2.setCell ⟨X,0,none⟩ (.slice A8 (acc.length+1) c8)).heap[X]? = some (.cells #[.slice A8 (acc.length+1) c8] 24 (0,0))):=hI (by simpa using zPw HX8.o 0 (.slice A8 (acc.length+1) c8));have HY9:=hI ((Below.heap_setCell v2 ⟨X,0,none⟩ (.slice A8 (acc.length+1) c8) Y (by have:=HXY.o;show Y≠X;omega)).trans HY8.o);have HP9:=hI (HP8.o.setLow (X:=X) (by have:=HXY.o;have:=HYQ.o;omega) (fun b off hA=>by have:=HFR.o b off hA;have:=HXY.o;omega) 0 (.slice A8 (acc.length+1) c8));have HRW9:=hI (HRW8.o.step (zjV v2 ⟨X,0,none⟩ (.slice A8 (acc.length+1) c8)) (fun g e=>by injection e with e;have e2:X=g:=e;left;have:=HXY.o;have:=HYQ.o;omega));have HB9:=hI (HB8.o.setCell (p:=⟨X,0,none⟩) (by have:=HXE.o;show W.heap.size≤X;omega) (.slice A8 (acc.length+1) c8));clear x0 xf0;generalize v2.setCell _ _=v1 at *;refine hK.o _ _ (fun h=>absurd rfl h) ?_;clear hK;try simp only[Act.put,pA,pB,pC]
  refine wD ?_ _;go_wp2_with fail;go_roundw
  case rel=>exact⟨f,j,acc++[(TFu.mk gp gn gps gh ⟨gte,gtl,gtb⟩ gb)],_,HP9.o,HX9.o,HY9.o,HRW9.o,HB9.o,HR,by have:=HFA.o;have:=HIJ.o;have:=HP9.o.pos;omega,by rw[List.length_append,List.length_singleton];have:=HFA.o;have:=HIJ.o;omega⟩
  case measure=>rw[HP0.o.posN,HP9.o.posN];have:=HIJ.o;have:=HP9.o.pos;omega
end
section
variable {p:Prop}
theorem uXd (h:p:=by
 go_upto_region 2 with (fail);generalize v1.alloc _=v2 at *;generalize v1.heap.size=X at HX ⊢;obtain⟨x0,xf0⟩:=zz HX.o 0;go_wp2_with fail;go_ret;exact⟨rfl,HB3.o⟩):p:=h
theorem uGL (h:p:=by
 go_enter Tryz.func146,Tryz.ntmps146;go_wp2_with fail;go_ret;exact⟨rfl,Below.refl _ _⟩):p:=h
end
def lxNm (s:ByteArray) (R:Option (List TTk)):Bool:=match R with
 | some [a,b]=>decide (a.kind=1) && decide (a.text=s)
 | _=>false
theorem zfg (s:ByteArray) (l:List TTk) (h2:¬l.length=2):lxNm s (some l)=false:=by
 match l,h2 with
 | [],_=>rfl
 | [a],_=>rfl
 | [a,b],h2=>exact absurd rfl h2
 | a::b::c::l,_=>rfl
theorem zi4 (s:ByteArray):s.toList.isEmpty=decide (s.size=0):=by
 rw[ByteArray.toList_eq];have h:s.data.toList.length=s.size:=rfl;cases e:s.data.toList with
 | nil=>rw[e] at h;rw[←h];rfl
 | cons a l=>rw[e] at h;rw[←h];rfl
theorem zpI (s:ByteArray) (W:World) (h:SpaceTab W):Calls Tryz.prog 109 #[s] W fun e w'=>e=.returned (.bool (zR s))∧Below W.heap.size W w':=by
 obtain⟨R,hR⟩:∃R,lexS s=R:=⟨_,rfl⟩
 have HC:=hI (zXa s W h);rw[show zR s=lxNm s (lexS s) from rfl];rw[hR] at HC ⊢;clear hR h;cases R
 case none=>rw[show lxNm s none=false from rfl];go_enter Tryz.func109,Tryz.ntmps109;go_wp2_with fail;refine (HC.o).mono ?_;intro e v1 hpost;obtain⟨hb2,v,E,P,rfl,hE⟩:=hpost;have HB3:=hI (bal hb2 (.cells #[E,P] 27));have HX:=hI (heap_alloc_new v1 (.cells #[E,P] 27));have qE:(E==0)=false:=nB hE;clear hb2 hE;exact uXd
 rename_i l;by_cases h2:l.length=2
 · obtain⟨t,t2,rfl⟩:∃a b,l=[a,b]:=by
    match l,h2 with
    | [a,b],_=>exact⟨a,b,rfl⟩
   clear h2;rw[show lxNm s (some [t,t2])=(decide (t.kind=1) && decide (t.text=s)) from rfl];go_enter Tryz.func109,Tryz.ntmps109;go_wp2_with fail;refine (HC.o).mono ?_;intro e v1 hpost;obtain⟨hb2,A,c,rfl,hsl,_⟩:=hpost;obtain⟨b,off,rfl,hlt,hcell⟩:=zO6 hsl 0 (by simp);have hk:=hcell 0 (.int .i64 t.kind) rfl;have ht:=hcell 3 (.string t.text) rfl;have hba:=bnew v1 (.cells #[.int .i64 0,.int .i64 0] 27);rw[←hba.cell hlt] at hk ht;have HB3:=hI (bal hb2 (.cells #[.int .i64 0,.int .i64 0] 27));have HX:=hI (heap_alloc_new v1 (.cells #[.int .i64 0,.int .i64 0] 27));simp only[Nat.zero_mul,Nat.add_zero] at hk ht;clear hb2 hsl hcell hba hlt;obtain⟨tk,tp,tn,tt⟩:=t;simp only at hk ht ⊢;go_upto_region 2 with (fail);generalize v1.alloc _=v2 at *;generalize v1.heap.size=X at HX ⊢;obtain⟨x0,xf0⟩:=zz HX.o 0;by_cases k1:tk=1
   · subst k1;go_wp2_with fail;go_ret;exact⟨zI (by rw[zOY];try simp),HB3.o⟩
   have q1:(tk==1)=false:=nB k1;have HK:=hI k1;clear k1;go_wp2_with fail;go_ret;exact⟨zI (by simp[HK.o]),HB3.o⟩
 rw[zfg s l h2];have q2:((l.length:Int)==2)=false:=by rw[beq_eq_false_iff_ne];omega
 clear h2;go_enter Tryz.func109,Tryz.ntmps109;go_wp2_with fail;refine (HC.o).mono ?_;intro e v1 hpost;obtain⟨hb2,A,c,rfl,hsl,_⟩:=hpost;have HB3:=hI (bal hb2 (.cells #[.int .i64 0,.int .i64 0] 27));have HX:=hI (heap_alloc_new v1 (.cells #[.int .i64 0,.int .i64 0] 27));clear hb2 hsl;exact uXd
theorem zHl (s:ByteArray) (has:Bool) (W:World) (h:SpaceTab W):Calls Tryz.prog 160 #[s,has] W fun e w'=>e=.returned (.bool (z9F zR s has))∧Below W.heap.size W w':=by
 have HC:=hI (zpI s W h);clear h;unfold z9F;cases has
 case false=>rw[if_neg (by simp)];go_enter Tryz.func160,Tryz.ntmps160;go_wp2_with fail;go_ret;exact⟨zI (zi4 s),Below.refl _ _⟩
 rw[if_pos rfl];go_enter Tryz.func160,Tryz.ntmps160;go_wp2_with fail;refine (HC.o).mono ?_;rintro e w2 ⟨rfl,hb⟩;go_wp2_with fail;go_ret;exact⟨rfl,hb⟩
theorem zbC (n:Int) (has:Bool) (W:World):Calls Tryz.prog 146 #[n,has] W fun e w'=>e=.returned (.bool (z2m n has))∧Below W.heap.size W w':=by
 unfold z2m;by_cases h0:n=0
 · subst h0;exact uGL
 have q0:(n==0)=false:=nB h0;rw[decide_eq_false h0,Bool.false_or];cases has
 case false=>clear h0;exact uGL
 by_cases h1:0<n
 · rw[decide_eq_true h1];obtain⟨d,hd⟩:∃d,decide (n≤4294967295)=d:=⟨_,rfl⟩
   rw[hd];clear h0;go_enter Tryz.func146,Tryz.ntmps146;go_wp2_with fail;go_ret;exact⟨zI (by rw[Bool.true_and,Bool.true_and,←hd]),Below.refl _ _⟩
 rw[decide_eq_false h1];clear h0;exact uGL
def z9W (r:Option Int):Value:=match r with
 | some a=>.tuple #[a,true]
 | none=>.tuple #[.int .i64 0,false]
theorem zRa (kind:Int) (W:World):Calls Tryz.prog 172 #[kind] W fun e w'=>e=.returned (z9W (z8g kind))∧Below W.heap.size W w':=by
 by_cases h:1≤kind∧kind≤26
 · have hk:kind=1∨kind=2∨kind=3∨kind=4∨kind=5∨kind=6∨kind=7∨kind=8∨kind=9∨kind=10∨kind=11∨kind=12∨kind=13∨kind=14∨kind=15∨kind=16∨kind=17∨kind=18∨kind=19∨kind=20∨kind=21∨kind=22∨kind=23∨kind=24∨kind=25∨kind=26:=by omega
   clear h;rcases hk with rfl | rfl | rfl | rfl | rfl | rfl | rfl | rfl | rfl | rfl | rfl | rfl | rfl | rfl | rfl | rfl | rfl | rfl | rfl | rfl | rfl | rfl | rfl | rfl | rfl | rfl
   all_goals
    go_enter Tryz.func172,Tryz.ntmps172;go_wp2_with fail;go_ret2;exact⟨rfl,Below.refl _ _⟩
 have hv:z8g kind=none:=by unfold z8g;rw[if_neg (by omega),if_neg (by omega),if_neg (by omega),if_neg (by omega),if_neg (by omega)]
 rw[hv];have q1:(kind==1)=false:=nB (by omega);have q2:(kind==2)=false:=nB (by omega);have q3:(kind==3)=false:=nB (by omega);have q4:(kind==4)=false:=nB (by omega);have q5:(kind==25)=false:=nB (by omega);have q6:(kind==26)=false:=nB (by omega);rcases (show kind≤0∨27≤kind by omega) with hlo | hhi
 · have d5:decide ((5:Int)≤kind)=false:=decide_eq_false (by omega);have d14:decide ((14:Int)≤kind)=false:=decide_eq_false (by omega);have d8:decide ((8:Int)≤kind)=false:=decide_eq_false (by omega);have d17:decide ((17:Int)≤kind)=false:=decide_eq_false (by omega);clear h hv hlo;go_enter Tryz.func172,Tryz.ntmps172;go_wp2_with fail;go_ret2;exact⟨rfl,Below.refl _ _⟩
 have d5:decide ((5:Int)≤kind)=true:=decide_eq_true (by omega);have d14:decide ((14:Int)≤kind)=true:=decide_eq_true (by omega);have d8:decide ((8:Int)≤kind)=true:=decide_eq_true (by omega);have d17:decide ((17:Int)≤kind)=true:=decide_eq_true (by omega);have e7:decide (kind≤7)=false:=decide_eq_false (by omega);have e16:decide (kind≤16)=false:=decide_eq_false (by omega);have e13:decide (kind≤13)=false:=decide_eq_false (by omega);have e24:decide (kind≤24)=false:=decide_eq_false (by omega);clear h hv hhi;go_enter Tryz.func172,Tryz.ntmps172;go_wp2_with fail;go_ret2;exact⟨rfl,Below.refl _ _⟩
section
variable {p:Prop}
theorem uU5 (h:p:=by
 obtain⟨x2,xf2⟩:=zz HX.o 2;go_wp2_with fail;refine (zbC num false _).mono ?_;rintro e v1 ⟨rfl,hb⟩;clear x2 xf2;replace HX:=hI ((hb.block X (zh HX.o)).trans HX.o);replace HR:=hI (HR.o.keep hb.size (fun p hp=>hb.cell (by have:=zh HX.o;exact hp)));replace HT1:=hI (zG HT1.o hb);replace HB:=hI (HB.o.trans (hb.mono (HB.o.size)));clear hb;cases h2:z2m num false
 case false=>go_wp2_with fail;go_ret;exact⟨zI (by rw[←HBV.o];simp[h1,h2]),HB.o⟩
 have HC2:=hI (HXS.o _ args _ HT1.o HR.o HSM.o.2);obtain⟨x4,xf4⟩:=zz HX.o 4;go_wp2_with fail;refine (HC2.o).mono ?_;rintro e v2 ⟨rfl,hb⟩;clear x4 xf4;go_wp2_with fail;go_ret;exact⟨zI (by rw[←HBV.o];simp[h1,h2]),HB.o.trans (hb.mono HB.o.size)⟩):p:=h
theorem uFD (h:p:=by
 obtain⟨x3,xf3⟩:=zz HX.o 3;obtain⟨x2,xf2⟩:=zz HX.o 2;go_wp2_with fail;refine (zHl name false _ HT1.o).mono ?_;rintro e v ⟨rfl,hb⟩;clear x3 xf3 x2 xf2;replace HX:=hI ((hb.block X (zh HX.o)).trans HX.o);replace HR:=hI (HR.o.keep hb.size (fun p hp=>hb.cell (by have:=zh HX.o;exact hp)));replace HT1:=hI (zG HT1.o hb);replace HB:=hI (HB.o.trans (hb.mono (HB.o.size)));clear hb;cases h1:z9F zR name false
 case false=>go_wp2_with fail;go_ret;exact⟨zI (by rw[←HBV.o];simp[h1]),HB.o⟩
 obtain⟨x2,xf2⟩:=zz HX.o 2;go_wp2_with fail;refine (zbC num true _).mono ?_;rintro e v1 ⟨rfl,hb⟩;clear x2 xf2;replace HX:=hI ((hb.block X (zh HX.o)).trans HX.o);replace HR:=hI (HR.o.keep hb.size (fun p hp=>hb.cell (by have:=zh HX.o;exact hp)));replace HT1:=hI (zG HT1.o hb);replace HB:=hI (HB.o.trans (hb.mono (HB.o.size)));clear hb;cases h2:z2m num true
 case false=>go_wp2_with fail;go_ret;exact⟨zI (by rw[←HBV.o];simp[h1,h2]),HB.o⟩
 have HC2:=hI (HXS.o _ args _ HT1.o HR.o HSM.o.2);obtain⟨x4,xf4⟩:=zz HX.o 4;go_wp2_with fail;refine (HC2.o).mono ?_;rintro e v2 ⟨rfl,hb⟩;clear x4 xf4;go_wp2_with fail;go_ret;exact⟨zI (by rw[←HBV.o];simp[h1,h2]),HB.o.trans (hb.mono HB.o.size)⟩):p:=h
theorem uIv (h:p:=by
 go_wp2_with fail;go_ret;exact⟨zI (by rw[←HBV.o];simp[h1]),HB.o⟩):p:=h
theorem uXJ (h:p:=by
 replace HBV:=hI hb;clear hb;go_upto_region 6 with (fail);clear x0 xf0;obtain⟨x3,xf3⟩:=zz HX.o 3;obtain⟨x2,xf2⟩:=zz HX.o 2;go_wp2_with fail;refine (zHl name true _ HT1.o).mono ?_;rintro e v ⟨rfl,hb⟩;clear x3 xf3 x2 xf2;replace HX:=hI ((hb.block X (zh HX.o)).trans HX.o);replace HR:=hI (HR.o.keep hb.size (fun p hp=>hb.cell (by have:=zh HX.o;exact hp)));replace HT1:=hI (zG HT1.o hb);replace HB:=hI (HB.o.trans (hb.mono (HB.o.size)));clear hb;cases h1:z9F zR name true
 case false=>exact uIv
 exact uU5):p:=h
theorem uG3 (h:p:=by
 obtain⟨x3,xf3⟩:=zz HX.o 3;obtain⟨x2,xf2⟩:=zz HX.o 2;go_wp2_with fail;refine (zHl name false _ HT1.o).mono ?_;rintro e v ⟨rfl,hb⟩;clear x3 xf3 x2 xf2;replace HX:=hI ((hb.block X (zh HX.o)).trans HX.o);replace HR:=hI (HR.o.keep hb.size (fun p hp=>hb.cell (by have:=zh HX.o;exact hp)));replace HT1:=hI (zG HT1.o hb);replace HB:=hI (HB.o.trans (hb.mono (HB.o.size)));clear hb;cases h1:z9F zR name false
 case false=>exact uIv
 exact uU5):p:=h
end
def PrXs (d:Nat):Prop:=∀(v:Value) (l:List TEx) (W:World),SpaceTab W→zj (zO d) W W.heap.size v l→l.length≤65536→Calls Tryz.prog 161 #[v] W fun e w'=>e=.returned (.bool (l.all fun x=>tpX zR d x))∧Below W.heap.size W w'
theorem zK2 (d:Nat) (hxs:PrXs d) (kind pos num:Int) (name:ByteArray) (args:List TEx) (A:Option Addr) (c:Nat) (W:World) (ht:SpaceTab W) (hsm:exSm (.mk kind pos num name args)) (hr:zj (zO d) W W.heap.size (.slice A args.length c) args) :
  Calls Tryz.prog 165 #[.agg #[kind,pos,num,name,.slice A args.length c]] W fun e w'=>e=.returned (.bool (tpX zR (d+1) (.mk kind pos num name args)))∧Below W.heap.size W w':=by
 have HT:=hI ht;have HXS:=hI hxs;have HSM:=hI hsm;have hb1:=bnew W (.cells #[kind,pos,num,name,.slice A args.length c] 153);have HX:=hI (heap_alloc_new W (.cells #[kind,pos,num,name,.slice A args.length c] 153));have HB:=hI hb1;have HR:=hI (hr.keep (Nat.le_of_lt (zh HX.o)) (fun p hp=>hb1.cell hp));have HT1:=hI (zG ht hb1);obtain⟨B,hB⟩:∃B,tpX zR (d+1) (.mk kind pos num name args)=B:=⟨_,rfl⟩
 rw[hB];unfold tpX at hB;have HBV:=hI hB;clear hB hb1 ht hxs hsm hr;have HC:=hI (zRa kind);obtain⟨oa,hoa⟩:∃oa,z8g kind=oa:=⟨_,rfl⟩
 rw[hoa] at HC;have hb:=HBV.o;rw[hoa] at hb;replace HBV:=hI hb;clear hb hoa;go_enter Tryz.func165,Tryz.ntmps165;go_upto_region 1 with (fail);generalize W.alloc _=v at *;obtain⟨X,hX⟩:∃X,W.heap.size=X:=⟨_,rfl⟩
 rw[hX] at HX ⊢;have HXE:=hI hX;clear hX;obtain⟨x0,xf0⟩:=zz HX.o 0;go_wp2_with fail;refine (HC.o v).mono ?_;rintro e v ⟨rfl,hb⟩;clear x0 xf0;replace HX:=hI ((hb.block X (zh HX.o)).trans HX.o);replace HR:=hI (HR.o.keep hb.size (fun p hp=>hb.cell (by have:=zh HX.o;exact hp)));replace HT1:=hI (zG HT1.o hb);replace HB:=hI (HB.o.trans (hb.mono (HB.o.size)));clear hb;cases oa
 case none=>unfold z9W;simp only;go_wp2_with fail;go_ret;exact⟨zI (by rw[←HBV.o];simp[]),HB.o⟩
 rename_i a;unfold z9W;simp only;have hb:=HBV.o;simp only at hb;replace HBV:=hI hb;clear hb;by_cases ha:0≤a∧¬(args.length:Int)=a
 · have h0:=ha.1;have qn:((args.length:Int) != a)=true:=by rw[bne_iff_ne];exact ha.2
   have HA:=hI ha;clear ha;obtain⟨x4,xf4⟩:=zz HX.o 4;go_wp2_with fail;go_ret;exact⟨zI (by rw[←HBV.o];simp[HA.o.1,HA.o.2]),HB.o⟩
 have hgo:(!(decide (0≤a) && !decide ((args.length:Int)=a)))=true:=by
  by_cases h0:0≤a
  · have:(args.length:Int)=a:=Classical.byContradiction fun h=>ha ⟨h0,h⟩;simp[h0,this]
  simp[h0]
 have hb:=HBV.o;rw[hgo,Bool.true_and] at hb;replace HBV:=hI hb;clear hb hgo;obtain⟨x4,xf4⟩:=zz HX.o 4;have hreg:True:=trivial;have HPASS:Jd ((¬0≤a)∨(0≤a∧((args.length:Int) != a)=false)):=hI (by by_cases h0:0≤a;exact Or.inr ⟨h0,by simp[show (args.length:Int)=a from Classical.byContradiction fun h=>ha ⟨h0,h⟩]⟩;exact Or.inl h0);clear ha hreg;rcases HPASS.o with h0 | ⟨h0,ql⟩;all_goals go_upto_region 4 with (fail)
 all_goals try clear ql
 all_goals clear h0 x4 xf4
 all_goals clear HPASS
 all_goals
  obtain⟨x0,xf0⟩:=zz HX.o 0;by_cases k2:kind=2
  · subst k2;have hb:=HBV.o;rw[show (decide ((2:Int)=2) || (decide ((2:Int)=3) || decide ((2:Int)=4)))=true from rfl,show (decide ((2:Int)=1) || (decide (14≤(2:Int)) && decide ((2:Int)≤16)))=false from rfl] at hb;exact uXJ
  have q2:(kind==2)=false:=nB k2;by_cases k3:kind=3
  · subst k3;have hb:=HBV.o;rw[show (decide ((3:Int)=2) || (decide ((3:Int)=3) || decide ((3:Int)=4)))=true from rfl,show (decide ((3:Int)=1) || (decide (14≤(3:Int)) && decide ((3:Int)≤16)))=false from rfl] at hb;exact uXJ
  have q3:(kind==3)=false:=nB k3;by_cases k4:kind=4
  · subst k4;have hb:=HBV.o;rw[show (decide ((4:Int)=2) || (decide ((4:Int)=3) || decide ((4:Int)=4)))=true from rfl,show (decide ((4:Int)=1) || (decide (14≤(4:Int)) && decide ((4:Int)≤16)))=false from rfl] at hb;exact uXJ
  have q4:(kind==4)=false:=nB k4;by_cases k1:kind=1
  · subst k1;have hb:=HBV.o;rw[show (decide ((1:Int)=2) || (decide ((1:Int)=3) || decide ((1:Int)=4)))=false from rfl,show (decide ((1:Int)=1) || (decide (14≤(1:Int)) && decide ((1:Int)≤16)))=true from rfl] at hb;replace HBV:=hI hb;clear hb;go_upto_region 6 with (fail);clear x0 xf0;exact uFD
  have q1:(kind==1)=false:=nB k1;by_cases k14:14≤kind
  · by_cases k16:kind≤16
    · skip;have hbh:(decide (kind=2) || (decide (kind=3) || decide (kind=4)))=false:=by simp <;> omega
      have hbc:(decide (kind=1) || (decide (14≤kind) && decide (kind≤16)))=true:=by simp <;> omega
      have hb:=HBV.o;rw[hbh,hbc] at hb;replace HBV:=hI hb;clear hb hbh hbc;go_upto_region 6 with (fail);clear x0 xf0 q1 q2 q3 q4 k1 k2 k3 k4 k14 k16;exact uFD
    have hbh:(decide (kind=2) || (decide (kind=3) || decide (kind=4)))=false:=by simp <;> omega
    have hbc:(decide (kind=1) || (decide (14≤kind) && decide (kind≤16)))=false:=by simp <;> omega
    have hb:=HBV.o;rw[hbh,hbc] at hb;replace HBV:=hI hb;clear hb hbh hbc;go_upto_region 6 with (fail);clear x0 xf0 q1 q2 q3 q4 k1 k2 k3 k4 k14 k16;exact uG3
  · skip;have hbh:(decide (kind=2) || (decide (kind=3) || decide (kind=4)))=false:=by simp <;> omega
    have hbc:(decide (kind=1) || (decide (14≤kind) && decide (kind≤16)))=false:=by simp <;> omega
    have hb:=HBV.o;rw[hbh,hbc] at hb;replace HBV:=hI hb;clear hb hbh hbc;go_upto_region 6 with (fail);clear x0 xf0 q1 q2 q3 q4 k1 k2 k3 k4 k14;exact uG3
section
variable {p:Prop}
theorem uSz (h:p:=by
 have kl:=HLN.o;go_wp2_with fail;go_roundw
 case rel=>exact⟨i+1,hlt,rfl,HB2.o,HRR⟩
 case measure=>show l.length-((i:Int)+1).toNat<l.length-(i:Int).toNat;omega):p:=h
theorem uDK (h:p:=by
 obtain rfl:i=l.length:=by omega
 have hr:=HR.o;rw[List.drop_length] at hr;have HRR:=hI hr;clear hr HR;go_wp2_with fail;go_ret;exact⟨by rw[←HRR.o];rfl,HB.o⟩):p:=h
end
theorem zho (d:Nat) (hih:∀m,d=m+1→PrXs m):PrXs d:=by
 intro v l W ht hsl hln;obtain⟨A,c,rfl,_⟩:=hsl.shape;have HT:=hI ht;have HL:=hI hsl;have HIH:=hI hih;have HLN:=hI hln;obtain⟨r,hr⟩:∃r,(l.all fun x=>tpX zR d x)=r:=⟨_,rfl⟩
 rw[hr];have HR0:Jd ((l.drop 0).all (fun x=>tpX zR d x)=r):=hI hr;clear hr hih ht hsl hln;go_enter Tryz.func161,Tryz.ntmps161;go_wp2_with fail;go_loopw [7] (fun vi wr=>∃(i:Nat),i≤l.length∧vi=.int .i64 i∧Below W.heap.size W wr∧Jd ((l.drop i).all (fun x=>tpX zR d x)=r)) (fun vi _=>l.length-(intOf vi).toNat)
 case atStart=>exact⟨0,Nat.zero_le _,rfl,Below.refl _ _,HR0⟩
 case round =>
  obtain⟨i,hi,rfl,hb,HR⟩:=hrel;have HB:=hI hb;clear hb;by_cases hlt:i<l.length
  · obtain⟨d1,b,off,v,hd,rfl,hb0,hsm,hx,x0,x1,x2,x3,x4⟩:=zYA (HL.o.below HB.o (Nat.le_refl _)) i hlt;obtain⟨Aa,ca,rfl,_⟩:=hx.shape;subst hd;have hR:=HR.o;rw[zD l i zq hlt,List.all_cons] at hR;generalize l.getD i zq=s at *;obtain⟨kind,pos,num,name,args⟩:=s;replace x0:wr.cell? ⟨b,off+i*5,none⟩=some (.int .i64 kind):=x0;replace x1:wr.cell? ⟨b,off+i*5+1,none⟩=some (.int .i64 pos):=x1;replace x2:wr.cell? ⟨b,off+i*5+2,none⟩=some (.int .i64 num):=x2;replace x3:wr.cell? ⟨b,off+i*5+3,none⟩=some (.string name):=x3;replace x4:wr.cell? ⟨b,off+i*5+4,none⟩=some (.slice Aa args.length ca):=x4;have hbA:=bnew wr (.cells #[kind,pos,num,name,.slice Aa args.length ca] 153);have hbW:=HB.o.trans (hbA.mono HB.o.size);have HXA:=hI (heap_alloc_new wr (.cells #[kind,pos,num,name,.slice Aa args.length ca] 153));have HC:=hI (zK2 d1 (HIH.o d1 rfl) kind pos num name args Aa ca _ (zG HT.o hbW) hsm (zj.keep hx (Nat.le_trans HB.o.size hbA.size) (fun p hp=>hbA.cell (Nat.lt_of_lt_of_le hp HB.o.size))));have HR1:=hI hR;have HBW:=hI hbW;have k0:(0:Int)≤(i:Int):=by omega
    have k1:(i:Int)<(l.length:Int):=by omega
    clear hbA hbW hx hsm hR HR HB hi;go_upto_region 4 with (fail);clear x0 x1 x2 x3 x4;generalize wr.alloc _=wa at *;have c_:=cb5 HXA.o;go_wp2_with fail;refine (HC.o).mono ?_;rintro e w2 ⟨rfl,hb2⟩;clear c_;have HB2:=hI (HBW.o.trans (hb2.mono HBW.o.size));clear hb2;cases ht:tpX zR (d1+1) (.mk kind pos num name args)
    case false=>have hr:=HR1.o;rw[ht,Bool.false_and] at hr;have HRR:=hI hr;clear ht hr;go_wp2_with fail;go_ret;exact⟨by rw[←HRR.o];rfl,HB2.o⟩
    have hr:=HR1.o;rw[ht,Bool.true_and] at hr;have HRR:=hI hr;clear ht hr;exact uSz
  exact uDK
theorem zo5:∀d,PrXs d:=by
 intro d;induction d with
 | zero=>exact zho 0 (fun m h=>absurd h (by omega))
 | succ d ih=>exact zho (d+1) (fun m h=>(show d=m by omega) ▸ ih)
theorem zAh (el ln la:Int) (W:World):Calls Tryz.prog 111 #[.agg #[el,ln,la]] W fun e w'=>e=.returned (.bool (zQp ⟨el,ln,la⟩))∧Below W.heap.size W w':=by
 have hb1:=bnew W (.cells #[el,ln,la] 41);have HX:=hI (heap_alloc_new W (.cells #[el,ln,la] 41));have HB:=hI hb1;clear hb1;obtain⟨B,hB⟩:∃B,zQp ⟨el,ln,la⟩=B:=⟨_,rfl⟩
 rw[hB];unfold zQp at hB;have HBV:=hI hB;clear hB;go_enter Tryz.func111,Tryz.ntmps111;go_upto_region 1 with (fail);generalize W.alloc _=v at *;obtain⟨X,hX⟩:∃X,W.heap.size=X:=⟨_,rfl⟩
 rw[hX] at HX ⊢;have HXE:=hI hX;clear hX;obtain⟨x2,xf2⟩:=zz HX.o 2;obtain⟨x1,xf1⟩:=zz HX.o 1;by_cases h:la=0∨la=1
 · rcases h with rfl | rfl
   all_goals
    go_wp2_with fail;refine (zbC ln true _).mono ?_;rintro e v ⟨rfl,hb⟩;replace HX:=hI ((hb.block X (zh HX.o)).trans HX.o);replace HB:=hI (HB.o.trans (hb.mono HB.o.size));clear x2 xf2 x1 xf1 hb;have x_:=cb2 HX.o;cases h1:z2m ln true with
    | false=>exact uIv
    | true =>
     by_cases k:el=1∨el=0∨el=2
     · rcases k with rfl | rfl | rfl
       all_goals
        go_wp2_with fail;go_ret;exact⟨zI (by rw[←HBV.o];simp[h1] <;> rfl),HB.o⟩
     have q0:(el==0)=false:=nB (by omega);have q1:(el==1)=false:=nB (by omega);have q2:(el==2)=false:=nB (by omega);have hbv:=HBV.o;rw[if_neg (by omega),if_neg (by omega),if_neg (by omega)] at hbv;have HBV2:=hI hbv;clear k hbv;go_wp2_with fail;go_ret;exact⟨zI (by rw[←HBV2.o];simp),HB.o⟩
 have q0:(la != 0)=true:=by rw[bne_iff_ne];omega
 have q1:(la != 1)=true:=by rw[bne_iff_ne];omega
 have hbv:=HBV.o;rw[show decide (la=0)=false from decide_eq_false (by omega),show decide (la=1)=false from decide_eq_false (by omega)] at hbv;have HBV2:=hI hbv;clear h hbv;go_wp2_with fail;go_ret;exact⟨zI (by rw[←HBV2.o];simp),HB.o⟩
def zsa (h:TSh):Array Value:=#[.bool h.name,.bool h.kind,.int .i64 h.args,.bool h.most,.bool h.block,.bool h.other]
def z4h:Option TSh→Value
 | some h=>.tuple #[.agg (zsa h),true]
 | none=>.tuple #[.agg (zsa ⟨false,false,0,false,false,false⟩),false]
theorem zN4 {R:Ending→World→Prop} {W:World} {h:TSh} {b:Bool} {ts:Array Value} (h2:ts[2]? = some (.pointer (some ⟨W.heap.size,0,none⟩))) (h3:ts[3]? = some (.bool b))
  (hR:R (.returned (.tuple #[.agg (zsa h),b])) (W.alloc (.cells (zsa h) 240))):bodyPost Tryz.prog Tryz.f159 R .ret ⟨ts,[]⟩ (W.alloc (.cells (zsa h) 240)):=by
 refine bodyPost_ret (v:=.tuple #[.agg (zsa h),b]) ?_ rfl hR;have HX:=heap_alloc_new W (.cells (zsa h) 240);clear hR;generalize W.alloc _=w at *;unfold zsa at HX ⊢;have m_:=cb6 HX;simp[results,Tryz.results159,go_sem,h2,h3,m_]
theorem zEu (kind:Int) (W:World):Calls Tryz.prog 159 #[kind] W fun e w'=>e=.returned (z4h (zcC kind))∧Below W.heap.size W w':=by
 have HB:∀h,Below W.heap.size W (W.alloc (.cells (zsa h) 240)):=fun h=>bnew W _;by_cases h:1≤kind∧kind≤8
 · have hk:kind=1∨kind=2∨kind=3∨kind=4∨kind=5∨kind=6∨kind=7∨kind=8:=by omega
   clear h;rcases hk with rfl | rfl | rfl | rfl | rfl | rfl | rfl | rfl
   all_goals
    go_enter Tryz.func159,Tryz.ntmps159;go_wp2_with fail;exact zN4 (h:=⟨_,_,_,_,_,_⟩) rfl rfl ⟨rfl,HB _⟩
 have hv:zcC kind=none:=by unfold zcC;rw[if_neg (by omega),if_neg (by omega),if_neg (by omega),if_neg (by omega),if_neg (by omega),if_neg (by omega)]
 have q1:(kind==1)=false:=nB (by omega);have q2:(kind==2)=false:=nB (by omega);have q3:(kind==3)=false:=nB (by omega);have q4:(kind==4)=false:=nB (by omega);have q5:(kind==5)=false:=nB (by omega);have q6:(kind==6)=false:=nB (by omega);have q7:(kind==7)=false:=nB (by omega);have q8:(kind==8)=false:=nB (by omega);rw[hv];clear h hv;go_enter Tryz.func159,Tryz.ntmps159;go_wp2_with fail;exact zN4 (h:=⟨_,_,_,_,_,_⟩) rfl rfl ⟨rfl,HB _⟩
set_option maxHeartbeats 4000000
section
variable {p:Prop}
theorem uJN (h:p:=by
 go_wp2_with fail;go_ret;exact⟨zI (by rw[←HBV.o];try simp[h6]),HB.o⟩):p:=h
theorem uAl (h:p:=by
 go_wp2_with fail;go_ret;exact⟨zI (by rw[←HBV.o];try simp[]),HB.o⟩):p:=h
theorem uI1 (h:p:=by
 go_wp2_with fail;go_ret;exact⟨zI (by rw[←HBV.o];try simp[h5]),HB.o⟩):p:=h
end
def PrSs (d:Nat):Prop:=∀(v:Value) (l:List TSt) (W:World),SpaceTab W→zj (zM d) W W.heap.size v l→l.length≤65536→Calls Tryz.prog 110 #[v] W fun e w'=>e=.returned (.bool (l.all fun x=>tpS zR d x))∧Below W.heap.size W w'
theorem zvj (d:Nat) (hss:PrSs d) (kind pos most:Int) (name:ByteArray) (te tl tb:Int) (args:List TEx) (body els:List TSt) (has:Bool) (Aa Ab Ae:Option Addr) (ca cb ce:Nat) (W:World) (ht:SpaceTab W)
  (hsm:stSm (.mk kind pos most name ⟨te,tl,tb⟩ args body els has)) (ha:zj (zO d) W W.heap.size (.slice Aa args.length ca) args) (hbo:zj (zM d) W W.heap.size (.slice Ab body.length cb) body) (he:zj (zM d) W W.heap.size (.slice Ae els.length ce) els) :
  Calls Tryz.prog 145 #[.agg #[kind,pos,most,name,te,tl,tb,.slice Aa args.length ca,.slice Ab body.length cb,.slice Ae els.length ce,has]] W fun e w'=>e=.returned (.bool (tpS zR (d+1) (.mk kind pos most name ⟨te,tl,tb⟩ args body els has)))∧Below W.heap.size W w':=by
 have HSS:=hI hss;have HXS:=hI (zo5 d);have HSM:=hI hsm;have hb1:=bnew W (.cells #[kind,pos,most,name,te,tl,tb,.slice Aa args.length ca,.slice Ab body.length cb,.slice Ae els.length ce,has] 126);have HX:=hI (heap_alloc_new W (.cells #[kind,pos,most,name,te,tl,tb,.slice Aa args.length ca,.slice Ab body.length cb,.slice Ae els.length ce,has] 126));have HB:=hI hb1;have HT:=hI (zG ht hb1);have HA:=hI (ha.keep (Nat.le_of_lt (zh HX.o)) (fun p hp=>hb1.cell hp));have HBO:=hI (hbo.keep (Nat.le_of_lt (zh HX.o)) (fun p hp=>hb1.cell hp));have HE:=hI (he.keep (Nat.le_of_lt (zh HX.o)) (fun p hp=>hb1.cell hp));obtain⟨B,hB⟩:∃B,tpS zR (d+1) (.mk kind pos most name ⟨te,tl,tb⟩ args body els has)=B:=⟨_,rfl⟩
 rw[hB];unfold tpS at hB;have HBV:=hI hB;clear hB hb1 ht hss hsm ha hbo he;have HC:=hI (zEu kind);obtain⟨oa,hoa⟩:∃oa,zcC kind=oa:=⟨_,rfl⟩
 rw[hoa] at HC;have hb:=HBV.o;rw[hoa] at hb;replace HBV:=hI hb;have HSH:=hI hoa;clear hb hoa;go_enter Tryz.func145,Tryz.ntmps145;go_upto_region 1 with (fail);generalize W.alloc _=v at *;obtain⟨X,hX⟩:∃X,W.heap.size=X:=⟨_,rfl⟩
 rw[hX] at HX ⊢;have HXE:=hI hX;clear hX;obtain⟨x0,xf0⟩:=zz HX.o 0;go_wp2_with fail;refine (HC.o v).mono ?_;rintro e v ⟨rfl,hb⟩;clear x0 xf0;replace HX:=hI ((hb.block X (zh HX.o)).trans HX.o);replace HA:=hI (HA.o.keep hb.size (fun p hp=>hb.cell hp));replace HBO:=hI (HBO.o.keep hb.size (fun p hp=>hb.cell hp));replace HE:=hI (HE.o.keep hb.size (fun p hp=>hb.cell hp));replace HT:=hI (zG HT.o hb);replace HB:=hI (HB.o.trans (hb.mono HB.o.size));clear hb;cases oa
 case none =>
  have hb:=bnew v (.cells #[false,false,.int .i64 0,false,false,false] 240);have HY:=hI (heap_alloc_new v (.cells #[false,false,.int .i64 0,false,false,false] 240));unfold z4h zsa;simp only;go_upto_region 2 with (fail);generalize v.alloc _=v1 at *;obtain⟨Y,hY⟩:∃Y,v.heap.size=Y:=⟨_,rfl⟩
  rw[hY] at HY ⊢;have hb9:Below v.heap.size v v1:=hb;clear hY hb;have hb:=hb9;clear hb9;replace HX:=hI ((hb.block X (zh HX.o)).trans HX.o);replace HA:=hI (HA.o.keep hb.size (fun p hp=>hb.cell hp));replace HBO:=hI (HBO.o.keep hb.size (fun p hp=>hb.cell hp));replace HE:=hI (HE.o.keep hb.size (fun p hp=>hb.cell hp));replace HT:=hI (zG HT.o hb);replace HB:=hI (HB.o.trans (hb.mono HB.o.size));clear hb;exact uAl
 rename_i h;obtain⟨hn,hk,ha,hm,hbl,ho⟩:=h;have hb:=HBV.o;unfold tpS0 at hb;simp only at hb;replace HBV:=hI hb;clear hb;have hb:=bnew v (.cells #[hn,hk,ha,hm,hbl,ho] 240);have HY:=hI (heap_alloc_new v (.cells #[hn,hk,ha,hm,hbl,ho] 240));unfold z4h zsa;simp only;go_upto_region 2 with (fail);generalize v.alloc _=v1 at *;obtain⟨Y,hY⟩:∃Y,v.heap.size=Y:=⟨_,rfl⟩
 rw[hY] at HY ⊢;have hb9:Below v.heap.size v v1:=hb;clear hY hb;have hb:=hb9;clear hb9;replace HX:=hI ((hb.block X (zh HX.o)).trans HX.o);replace HA:=hI (HA.o.keep hb.size (fun p hp=>hb.cell hp));replace HBO:=hI (HBO.o.keep hb.size (fun p hp=>hb.cell hp));replace HE:=hI (HE.o.keep hb.size (fun p hp=>hb.cell hp));replace HT:=hI (zG HT.o hb);replace HB:=hI (HB.o.trans (hb.mono HB.o.size));clear hb;obtain⟨x3,xf3⟩:=zz HX.o 3;obtain⟨y0,yf0⟩:=zz HY.o 0;go_wp2_with fail;refine (zHl name hn _ HT.o).mono ?_;rintro e v ⟨rfl,hb⟩;clear x3 xf3 y0 yf0;replace HX:=hI ((hb.block X (zh HX.o)).trans HX.o);replace HY:=hI ((hb.block Y (zh HY.o)).trans HY.o);replace HA:=hI (HA.o.keep hb.size (fun p hp=>hb.cell hp));replace HBO:=hI (HBO.o.keep hb.size (fun p hp=>hb.cell hp));replace HE:=hI (HE.o.keep hb.size (fun p hp=>hb.cell hp));replace HT:=hI (zG HT.o hb);replace HB:=hI (HB.o.trans (hb.mono HB.o.size));clear hb;cases h1:z9F zR name hn
 case false=>go_wp2_with fail;go_ret;exact⟨zI (by rw[←HBV.o];try simp[h1]),HB.o⟩
 have hb:=HBV.o;simp only[h1,Bool.true_and] at hb;replace HBV:=hI hb;clear hb h1;obtain⟨x2,xf2⟩:=zz HX.o 2;obtain⟨y3,yf3⟩:=zz HY.o 3;go_wp2_with fail;refine (zbC most hm _).mono ?_;rintro e v ⟨rfl,hb⟩;clear x2 xf2 y3 yf3;replace HX:=hI ((hb.block X (zh HX.o)).trans HX.o);replace HY:=hI ((hb.block Y (zh HY.o)).trans HY.o);replace HA:=hI (HA.o.keep hb.size (fun p hp=>hb.cell hp));replace HBO:=hI (HBO.o.keep hb.size (fun p hp=>hb.cell hp));replace HE:=hI (HE.o.keep hb.size (fun p hp=>hb.cell hp));replace HT:=hI (zG HT.o hb);replace HB:=hI (HB.o.trans (hb.mono HB.o.size));clear hb;cases h2:z2m most hm
 case false=>go_wp2_with fail;go_ret;exact⟨zI (by rw[←HBV.o];try simp[h2]),HB.o⟩
 have hb:=HBV.o;simp only[h2,Bool.true_and] at hb;replace HBV:=hI hb;clear hb h2;obtain⟨x7,xf7⟩:=zz HX.o 7;obtain⟨y2,yf2⟩:=zz HY.o 2;by_cases hl:(args.length:Int)=ha
 · have ql:((args.length:Int) != ha)=false:=by rw[hl];simp
   have h3:decide ((args.length:Int)=ha)=true:=decide_eq_true hl;have HL:=hI hl;clear hl;have hb:=HBV.o;simp only[h3,Bool.true_and] at hb;replace HBV:=hI hb;clear hb h3;go_wp2_with fail;refine (HXS.o _ args _ HT.o HA.o HSM.o.2.1).mono ?_;rintro e v ⟨rfl,hb⟩;clear x7 xf7 y2 yf2 ql;replace HX:=hI ((hb.block X (zh HX.o)).trans HX.o);replace HY:=hI ((hb.block Y (zh HY.o)).trans HY.o);replace HA:=hI (HA.o.keep hb.size (fun p hp=>hb.cell hp));replace HBO:=hI (HBO.o.keep hb.size (fun p hp=>hb.cell hp));replace HE:=hI (HE.o.keep hb.size (fun p hp=>hb.cell hp));replace HT:=hI (zG HT.o hb);replace HB:=hI (HB.o.trans (hb.mono HB.o.size));clear hb;cases h4:(args.all fun x=>tpX zR d x)
   case false=>go_wp2_with fail;go_ret;exact⟨zI (by rw[←HBV.o];try simp[h4]),HB.o⟩
   have hb:=HBV.o;simp only[h4,Bool.true_and] at hb;replace HBV:=hI hb;clear hb h4;obtain⟨x0,xf0⟩:=zz HX.o 0;obtain⟨x4,xf4⟩:=zz HX.o 4;obtain⟨x5,xf5⟩:=zz HX.o 5;obtain⟨x6,xf6⟩:=zz HX.o 6;obtain⟨x7,xf7⟩:=zz HX.o 7;obtain⟨y1,yf1⟩:=zz HY.o 1;cases hk
   case' false =>
    by_cases hz:te=0∧tl=0∧tb=0
    case neg =>
     have h5:zEY ⟨te,tl,tb⟩=false:=by unfold zEY;simp;intro h1 h2 h3;exact hz ⟨h1,h2,h3⟩
     by_cases t0:te=0
     case neg=>have q0:(te==0)=false:=nB t0;clear t0 hz;exact uI1
     subst t0;by_cases t1:tl=0
     case neg=>have q0:(tl==0)=false:=nB t1;clear t1 hz;exact uI1
     subst t1;have q0:(tb==0)=false:=by rw[beq_eq_false_iff_ne];exact fun h=>hz ⟨rfl,rfl,h⟩
     clear hz;exact uI1
    obtain⟨rfl,rfl,rfl⟩:=hz;have h5:zEY ⟨0,0,0⟩=true:=rfl;have hb:=HBV.o;simp only[h5,Bool.true_and,Bool.false_eq_true,if_false] at hb;replace HBV:=hI hb;clear hb;clear h5
   case' true =>
    go_wp2_with fail;refine (zAh te tl tb _).mono ?_;rintro e v ⟨rfl,hb⟩;clear x0 xf0 x4 xf4 x5 xf5 x6 xf6 x7 xf7 y1 yf1;replace HX:=hI ((hb.block X (zh HX.o)).trans HX.o);replace HY:=hI ((hb.block Y (zh HY.o)).trans HY.o);replace HA:=hI (HA.o.keep hb.size (fun p hp=>hb.cell hp));replace HBO:=hI (HBO.o.keep hb.size (fun p hp=>hb.cell hp));replace HE:=hI (HE.o.keep hb.size (fun p hp=>hb.cell hp));replace HT:=hI (zG HT.o hb);replace HB:=hI (HB.o.trans (hb.mono HB.o.size));clear hb;cases h5:zQp ⟨te,tl,tb⟩
    case false=>exact uI1
    have hb:=HBV.o;simp only[h5,Bool.true_and,if_true] at hb;replace HBV:=hI hb;clear hb;clear h5;obtain⟨x0,xf0⟩:=zz HX.o 0;obtain⟨x4,xf4⟩:=zz HX.o 4;obtain⟨x5,xf5⟩:=zz HX.o 5;obtain⟨x6,xf6⟩:=zz HX.o 6;obtain⟨x7,xf7⟩:=zz HX.o 7;obtain⟨y1,yf1⟩:=zz HY.o 1
   all_goals
    by_cases k7:kind=7
    case' pos =>
     subst k7
     have hsh:=HSH.o
     unfold zcC at hsh
     rw[if_neg (by decide),if_neg (by decide),if_neg (by decide),if_neg (by decide),if_neg (by decide),if_pos (by decide)] at hsh
     injection hsh with hsh
     injection hsh with s1 s2 s3 s4 s5 s6
     have hlen:args.length=1:=by have:=HL.o;omega
     obtain⟨m,b,off,vv,hdm,rfl,hbB,hsm,hx,z0,z1,z2,z3,z4⟩:=zYA HA.o 0 (by omega)
     obtain⟨a,rfl⟩:∃a,args=[a]:=List.length_eq_one_iff.1 hlen
     simp only[Nat.zero_mul,Nat.add_zero,List.getD_cons_zero] at z0
     clear hdm hbB hsm hx z1 z2 z3 z4 s1 s2 s3 s4 s5 s6 hlen
     by_cases a4:a.kind=4
     case neg =>
      have qa:(a.kind != 4)=true:=by rw[bne_iff_ne];exact a4
      have h6:zAq 7 [a]=false:=by unfold zAq;simp[a4]
      exact uJN
     have qa:(a.kind != 4)=false:=by rw[a4];rfl
     have h6:zAq 7 [a]=true:=by unfold zAq;simp[a4]
     clear a4
     have hb:=HBV.o
     simp only[h6,Bool.true_and] at hb
     replace HBV:=hI hb
     clear hb h6
     go_upto_region 6 with (fail)
     clear qa z0 x0 xf0 x4 xf4 x5 xf5 x6 xf6 x7 xf7 y1 yf1
    case' neg =>
     have q7:(kind==7)=false:=nB k7
     have h6:zAq kind args=true:=by unfold zAq;simp[k7]
     clear k7
     have hb:=HBV.o
     simp only[h6,Bool.true_and] at hb
     replace HBV:=hI hb
     clear hb h6
     go_upto_region 6 with (fail)
     clear q7 x0 xf0 x4 xf4 x5 xf5 x6 xf6 x7 xf7 y1 yf1
   all_goals
    obtain⟨x8,xf8⟩:=zz HX.o 8
    obtain⟨x9,xf9⟩:=zz HX.o 9
    obtain⟨x10,xf10⟩:=zz HX.o 10
    obtain⟨y4,yf4⟩:=zz HY.o 4
    obtain⟨y5,yf5⟩:=zz HY.o 5
    cases hbl
    case' false =>
     have hnb:body.length=0∨0<body.length:=by omega
     rcases hnb with hnb | hnb
     case inr =>
      obtain⟨s0,l0,rfl⟩:=List.exists_cons_of_length_pos hnb
      have q1:decide ((0:Int)<(l0.length:Int)+1)=true:=decide_eq_true (by omega)
      clear hnb
      exact uAl
     obtain rfl:body=[]:=List.length_eq_zero_iff.1 hnb
     clear hnb
   all_goals
    cases has
    case' false =>
     have hne:els.length=0∨0<els.length:=by omega
     rcases hne with hne | hne
     case inr =>
      obtain⟨s0,l0,rfl⟩:=List.exists_cons_of_length_pos hne
      have q1:decide ((0:Int)<(l0.length:Int)+1)=true:=decide_eq_true (by omega)
      clear hne
      exact uAl
     obtain rfl:els=[]:=List.length_eq_zero_iff.1 hne
     clear hne
    case' true =>
     cases ho
     go_wp2_with fail
     go_ret
     exact⟨zI (by rw[←HBV.o];try simp[]),HB.o⟩
   all_goals
    go_upto_region 8 with (fail)
    clear x8 xf8 x9 xf9 x10 xf10 y4 yf4 y5 yf5
    obtain⟨x8,xf8⟩:=zz HX.o 8
    go_wp2_with fail
    refine (HSS.o _ _ _ HT.o HBO.o HSM.o.2.2.1).mono ?_
    rintro e v ⟨rfl,hb⟩
    clear x8 xf8
    have hc:=hb
    replace HX:=hI ((hc.block X (zh HX.o)).trans HX.o)
    replace HY:=hI ((hc.block Y (zh HY.o)).trans HY.o)
    replace HA:=hI (HA.o.keep hc.size (fun p hp=>hc.cell hp))
    replace HBO:=hI (HBO.o.keep hc.size (fun p hp=>hc.cell hp))
    replace HE:=hI (HE.o.keep hc.size (fun p hp=>hc.cell hp))
    replace HT:=hI (zG HT.o hc)
    replace HB:=hI (HB.o.trans (hc.mono HB.o.size))
    clear hc
    clear hb
    generalize h9:List.all _ (fun x=>tpS zR d x)=B9
    have hb:=HBV.o
    simp only[h9,Bool.false_or,Bool.true_or,Bool.not_false,Bool.not_true,Bool.and_true,Bool.true_and,Bool.or_true] at hb
    replace HBV:=hI hb
    clear hb h9
    cases B9
    case false =>
     exact uAl
    obtain⟨x9,xf9⟩:=zz HX.o 9
    go_wp2_with fail
    refine (HSS.o _ _ _ HT.o HE.o HSM.o.2.2.2).mono ?_
    rintro e v ⟨rfl,hb⟩
    clear x9 xf9
    go_wp2_with fail
    go_ret
    exact⟨zI (by rw[←HBV.o];try simp),HB.o.trans (hb.mono HB.o.size)⟩
 have ql:((args.length:Int) != ha)=true:=by rw[bne_iff_ne];exact hl
 have h3:decide ((args.length:Int)=ha)=false:=decide_eq_false hl;go_wp2_with fail;go_ret;exact⟨zI (by rw[←HBV.o];try simp[h3]),HB.o⟩
theorem zGC (d:Nat) (hih:∀m,d=m+1→PrSs m):PrSs d:=by
 intro v l W ht hsl hln;obtain⟨A,c,rfl,_⟩:=hsl.shape;have HT:=hI ht;have HL:=hI hsl;have HIH:=hI hih;have HLN:=hI hln;obtain⟨r,hr⟩:∃r,(l.all fun x=>tpS zR d x)=r:=⟨_,rfl⟩
 rw[hr];have HR0:Jd ((l.drop 0).all (fun x=>tpS zR d x)=r):=hI hr;clear hr hih ht hsl hln;go_enter Tryz.func110,Tryz.ntmps110;go_wp2_with fail;go_loopw [7] (fun vi wr=>∃(i:Nat),i≤l.length∧vi=.int .i64 i∧Below W.heap.size W wr∧Jd ((l.drop i).all (fun x=>tpS zR d x)=r)) (fun vi _=>l.length-(intOf vi).toNat)
 case atStart=>exact⟨0,Nat.zero_le _,rfl,Below.refl _ _,HR0⟩
 case round =>
  obtain⟨i,hi,rfl,hb,HR⟩:=hrel;have HB:=hI hb;clear hb;by_cases hlt:i<l.length
  · obtain⟨d1,b,off,va,vb,ve,hd,rfl,hb0,hsm,hxa,hxb,hxe,hcell⟩:=zM1 (HL.o.below HB.o (Nat.le_refl _)) i hlt;obtain⟨Aa,ca,rfl,_⟩:=hxa.shape;obtain⟨Ab,cb,rfl,_⟩:=hxb.shape;obtain⟨Ae,ce,rfl,_⟩:=hxe.shape;subst hd;have hR:=HR.o;rw[zD l i zJ hlt,List.all_cons] at hR;generalize l.getD i zJ=s at *;obtain⟨kind,pos,most,name,⟨te,tl,tb⟩,args,body,els,has⟩:=s;have x0:wr.cell? ⟨b,off+i*11,none⟩=some (.int .i64 kind):=hcell 0 _ rfl;have x1:wr.cell? ⟨b,off+i*11+1,none⟩=some (.int .i64 pos):=hcell 1 _ rfl;have x2:wr.cell? ⟨b,off+i*11+2,none⟩=some (.int .i64 most):=hcell 2 _ rfl;have x3:wr.cell? ⟨b,off+i*11+3,none⟩=some (.string name):=hcell 3 _ rfl;have x4:wr.cell? ⟨b,off+i*11+4,none⟩=some (.int .i64 te):=hcell 4 _ rfl;have x5:wr.cell? ⟨b,off+i*11+5,none⟩=some (.int .i64 tl):=hcell 5 _ rfl;have x6:wr.cell? ⟨b,off+i*11+6,none⟩=some (.int .i64 tb):=hcell 6 _ rfl;have x7:wr.cell? ⟨b,off+i*11+7,none⟩=some (.slice Aa args.length ca):=hcell 7 _ rfl;have x8:wr.cell? ⟨b,off+i*11+8,none⟩=some (.slice Ab body.length cb):=hcell 8 _ rfl;have x9:wr.cell? ⟨b,off+i*11+9,none⟩=some (.slice Ae els.length ce):=hcell 9 _ rfl;have x10:wr.cell? ⟨b,off+i*11+10,none⟩=some (.bool has):=hcell 10 _ rfl;have hbA:=bnew wr (.cells #[kind,pos,most,name,te,tl,tb,.slice Aa args.length ca,.slice Ab body.length cb,.slice Ae els.length ce,has] 126);have hbW:=HB.o.trans (hbA.mono HB.o.size);have HXA:=hI (heap_alloc_new wr (.cells #[kind,pos,most,name,te,tl,tb,.slice Aa args.length ca,.slice Ab body.length cb,.slice Ae els.length ce,has] 126));have HC:=hI (zvj d1 (HIH.o d1 rfl) kind pos most name te tl tb args body els has Aa Ab Ae ca cb ce _ (zG HT.o hbW) hsm (zj.keep hxa (Nat.le_trans HB.o.size hbA.size) (fun p hp=>hbA.cell (Nat.lt_of_lt_of_le hp HB.o.size))) (zj.keep hxb (Nat.le_trans HB.o.size hbA.size) (fun p hp=>hbA.cell (Nat.lt_of_lt_of_le hp HB.o.size))) (zj.keep hxe (Nat.le_trans HB.o.size hbA.size) (fun p hp=>hbA.cell (Nat.lt_of_lt_of_le hp HB.o.size))));have HR1:=hI hR;have HBW:=hI hbW;have k0:(0:Int)≤(i:Int):=by omega
    have k1:(i:Int)<(l.length:Int):=by omega
    clear hbA hbW hxa hxb hxe hsm hR HR HB hi hcell;go_upto_region 4 with (fail);clear x0 x1 x2 x3 x4 x5 x6 x7 x8 x9 x10;generalize wr.alloc _=wa at *;have c_:=cb9 HXA.o;obtain⟨c9,cf9⟩:=zz HXA.o 9;obtain⟨c10,cf10⟩:=zz HXA.o 10;go_wp2_with fail;refine (HC.o).mono ?_;rintro e w2 ⟨rfl,hb2⟩;clear c9 cf9 c10 cf10 c_;have HB2:=hI (HBW.o.trans (hb2.mono HBW.o.size));clear hb2;generalize tpS zR (d1+1) (.mk kind pos most name ⟨te,tl,tb⟩ args body els has)=B1 at *;cases B1
    case false=>have hr:=HR1.o;rw[Bool.false_and] at hr;have HRR:=hI hr;clear hr;go_wp2_with fail;go_ret;exact⟨by rw[←HRR.o];rfl,HB2.o⟩
    have hr:=HR1.o;rw[Bool.true_and] at hr;have HRR:=hI hr;clear hr;exact uSz
  exact uDK
theorem zCd:∀d,PrSs d:=by
 intro d;induction d with
 | zero=>exact zGC 0 (fun m h=>absurd h (by omega))
 | succ d ih=>exact zGC (d+1) (fun m h=>(show d=m by omega) ▸ ih)
theorem zpi (d:Nat) (pos:Int) (name:ByteArray) (params:List TPa) (has:Bool) (te tl tb:Int) (body:List TSt) (Ap Ab:Option Addr) (cp cb:Nat) (W:World) (ht:SpaceTab W)
  (hsm:fuSm ⟨pos,name,params,has,⟨te,tl,tb⟩,body⟩) (hp:zj zGc W W.heap.size (.slice Ap params.length cp) params) (hbo:zj (zM d) W W.heap.size (.slice Ab body.length cb) body) :
  Calls Tryz.prog 87 #[.agg #[pos,name,.slice Ap params.length cp,has,te,tl,tb,.slice Ab body.length cb]] W fun e w'=>e=.returned (.bool (tpF zR d ⟨pos,name,params,has,⟨te,tl,tb⟩,body⟩))∧Below W.heap.size W w':=by
 have HSM:=hI hsm;have hb1:=bnew W (.cells #[pos,name,.slice Ap params.length cp,has,te,tl,tb,.slice Ab body.length cb] 61);have HX:=hI (heap_alloc_new W (.cells #[pos,name,.slice Ap params.length cp,has,te,tl,tb,.slice Ab body.length cb] 61));have HB:=hI hb1;have HT:=hI (zG ht hb1);have HP:=hI (hp.keep (Nat.le_of_lt (zh HX.o)) (fun p hp=>hb1.cell hp));have HBO:=hI (hbo.keep (Nat.le_of_lt (zh HX.o)) (fun p hp=>hb1.cell hp));obtain⟨B,hB⟩:∃B,tpF zR d ⟨pos,name,params,has,⟨te,tl,tb⟩,body⟩=B:=⟨_,rfl⟩
 rw[hB];unfold tpF at hB;simp only at hB;have HBV:=hI hB;clear hB hb1 ht hsm hp hbo;go_enter Tryz.func87,Tryz.ntmps87;go_upto_region 1 with (fail);generalize W.alloc _=v at *;obtain⟨X,hX⟩:∃X,W.heap.size=X:=⟨_,rfl⟩
 rw[hX] at HX ⊢;have HXE:=hI hX;clear hX;obtain⟨x1,xf1⟩:=zz HX.o 1;go_wp2_with fail;refine (zpI name _ HT.o).mono ?_;rintro e v ⟨rfl,hb⟩;clear x1 xf1;replace HX:=hI ((hb.block X (zh HX.o)).trans HX.o);replace HP:=hI (HP.o.keep hb.size (fun p hp=>hb.cell hp));replace HBO:=hI (HBO.o.keep hb.size (fun p hp=>hb.cell hp));replace HT:=hI (zG HT.o hb);replace HB:=hI (HB.o.trans (hb.mono HB.o.size));clear hb;cases h1:zR name
 case false=>go_wp2_with fail;go_ret;exact⟨zI (by rw[←HBV.o];try simp[h1]),HB.o⟩
 have hb:=HBV.o;simp only[h1,Bool.true_and] at hb;replace HBV:=hI hb;clear hb h1;obtain⟨x7,xf7⟩:=zz HX.o 7;go_wp2_with fail;refine (zCd d _ body _ HT.o HBO.o HSM.o.2.2).mono ?_;rintro e v ⟨rfl,hb⟩;clear x7 xf7;replace HX:=hI ((hb.block X (zh HX.o)).trans HX.o);replace HP:=hI (HP.o.keep hb.size (fun p hp=>hb.cell hp));replace HBO:=hI (HBO.o.keep hb.size (fun p hp=>hb.cell hp));replace HT:=hI (zG HT.o hb);replace HB:=hI (HB.o.trans (hb.mono HB.o.size));clear hb;cases h2:(body.all fun s=>tpS zR d s)
 case false=>go_wp2_with fail;go_ret;exact⟨zI (by rw[←HBV.o];try simp[h2]),HB.o⟩
 have hb:=HBV.o;simp only[h2,Bool.true_and] at hb;replace HBV:=hI hb;clear hb h2;obtain⟨x2,xf2⟩:=zz HX.o 2;obtain⟨T,hT⟩:∃T,(if has=true then zQp ⟨te,tl,tb⟩ && (decide (tl=0) && !decide (te=2)) else zEY ⟨te,tl,tb⟩)=T:=⟨_,rfl⟩
 have hb:=HBV.o;rw[hT] at hb;have HR0:Jd (((params.drop 0).all (fun p=>zR p.name && zQp p.ty) && T)=B):=hI hb;have HTT:=hI hT;clear hb hT HBV;go_wp2_with fail;go_loopw [18] (fun vi wr=>∃(i:Nat),i≤params.length∧vi=.int .i64 i∧Below v.heap.size v wr∧Jd (((params.drop i).all (fun p=>zR p.name && zQp p.ty) && T)=B)) (fun vi _=>params.length-(intOf vi).toNat)
 case atStart=>exact⟨0,Nat.zero_le _,rfl,Below.refl _ _,HR0⟩
 case round =>
  clear x2 xf2 HR0;obtain⟨i,hi,rfl,hb,HBV⟩:=hrel;have HL9:=hI hb;replace HX:=hI ((hb.block X (zh HX.o)).trans HX.o);replace HP:=hI (HP.o.keep hb.size (fun p hp=>hb.cell hp));replace HBO:=hI (HBO.o.keep hb.size (fun p hp=>hb.cell hp));replace HT:=hI (zG HT.o hb);replace HB:=hI (HB.o.trans (hb.mono HB.o.size));clear hb;by_cases hlt:i<params.length
  case pos =>
   obtain⟨b,off,rfl,hb0,hnm,hcell⟩:=zmg HP.o i hlt;have hR:=HBV.o;rw[zD params i z12 hlt,List.all_cons,Bool.and_assoc,Bool.and_assoc] at hR;replace HBV:=hI hR;clear hR;generalize params.getD i z12=p at *;have x0:wr.cell? ⟨b,off+i*6,none⟩=some (.int .i64 p.pos):=hcell 0 _ rfl;have x1:wr.cell? ⟨b,off+i*6+1,none⟩=some (.string p.name):=hcell 1 _ rfl;have x2:wr.cell? ⟨b,off+i*6+2,none⟩=some (.int .i64 p.ty.elem):=hcell 2 _ rfl;have x3:wr.cell? ⟨b,off+i*6+3,none⟩=some (.int .i64 p.ty.len):=hcell 3 _ rfl;have x4:wr.cell? ⟨b,off+i*6+4,none⟩=some (.int .i64 p.ty.label):=hcell 4 _ rfl;have x5:wr.cell? ⟨b,off+i*6+5,none⟩=some (.bool p.out):=hcell 5 _ rfl;have hbA:=bnew wr (.cells #[p.pos,p.name,p.ty.elem,p.ty.len,p.ty.label,p.out] 65);have HY:=hI (heap_alloc_new wr (.cells #[p.pos,p.name,p.ty.elem,p.ty.len,p.ty.label,p.out] 65));have k0:(0:Int)≤(i:Int):=by omega
   have k1:(i:Int)<(params.length:Int):=by omega
   have HLN:Jd (params.length≤65536):=hI HSM.o.2.1;clear hcell hb0 hnm hi;go_upto_region 6 with (fail);clear k0 k1 x0 x1 x2 x3 x4 x5;generalize wr.alloc _=wa at *;obtain⟨Y,hY⟩:∃Y,wr.heap.size=Y:=⟨_,rfl⟩
   rw[hY] at HY ⊢;have hb:Below wr.heap.size wr wa:=hbA;clear hY hbA;replace HL9:=hI (HL9.o.trans (hb.mono HL9.o.size));replace HX:=hI ((hb.block X (zh HX.o)).trans HX.o);replace HP:=hI (HP.o.keep hb.size (fun p hp=>hb.cell hp));replace HBO:=hI (HBO.o.keep hb.size (fun p hp=>hb.cell hp));replace HT:=hI (zG HT.o hb);replace HB:=hI (HB.o.trans (hb.mono HB.o.size));clear hb;obtain⟨y1,yf1⟩:=zz HY.o 1;obtain⟨y2,yf2⟩:=zz HY.o 2;obtain⟨y3,yf3⟩:=zz HY.o 3;obtain⟨y4,yf4⟩:=zz HY.o 4;go_wp2_with fail;refine (zpI p.name _ HT.o).mono ?_;rintro e v ⟨rfl,hb⟩;clear y1 yf1 y2 yf2 y3 yf3 y4 yf4;replace HY:=hI ((hb.block Y (zh HY.o)).trans HY.o);replace HL9:=hI (HL9.o.trans (hb.mono HL9.o.size));replace HX:=hI ((hb.block X (zh HX.o)).trans HX.o);replace HP:=hI (HP.o.keep hb.size (fun p hp=>hb.cell hp));replace HBO:=hI (HBO.o.keep hb.size (fun p hp=>hb.cell hp));replace HT:=hI (zG HT.o hb);replace HB:=hI (HB.o.trans (hb.mono HB.o.size));clear hb;cases h3:zR p.name
   case false=>go_wp2_with fail;go_ret;exact⟨zI (by rw[←HBV.o];try simp[h3]),HB.o⟩
   have hb:=HBV.o;simp only[h3,Bool.true_and] at hb;replace HBV:=hI hb;clear hb h3;obtain⟨y2,yf2⟩:=zz HY.o 2;obtain⟨y3,yf3⟩:=zz HY.o 3;obtain⟨y4,yf4⟩:=zz HY.o 4;go_wp2_with fail;refine (zAh p.ty.elem p.ty.len p.ty.label _).mono ?_;rintro e v ⟨rfl,hb⟩;clear y2 yf2 y3 yf3 y4 yf4;replace HL9:=hI (HL9.o.trans (hb.mono HL9.o.size));replace HX:=hI ((hb.block X (zh HX.o)).trans HX.o);replace HP:=hI (HP.o.keep hb.size (fun p hp=>hb.cell hp));replace HBO:=hI (HBO.o.keep hb.size (fun p hp=>hb.cell hp));replace HT:=hI (zG HT.o hb);replace HB:=hI (HB.o.trans (hb.mono HB.o.size));clear hb;cases h4:zQp p.ty
   case false=>go_wp2_with fail;go_ret;exact⟨zI (by rw[←HBV.o];try simp[h4]),HB.o⟩
   have hb:=HBV.o;simp only[h4,Bool.true_and] at hb;replace HBV:=hI hb;clear hb h4;have kl:=HLN.o;go_wp2_with fail;go_roundw
   case rel=>exact⟨i+1,hlt,rfl,HL9.o,HBV⟩
   case measure=>show params.length-((i:Int)+1).toNat<params.length-(i:Int).toNat;omega
  obtain rfl:i=params.length:=by omega
  have hb:=HBV.o;rw[List.drop_length,List.all_nil,Bool.true_and] at hb;have hT:=HTT.o;rw[hb] at hT;clear hb HBV HTT;have HBV:=hI hT;clear hT hi hlt;obtain⟨x3,xf3⟩:=zz HX.o 3;obtain⟨x4,xf4⟩:=zz HX.o 4;obtain⟨x5,xf5⟩:=zz HX.o 5;obtain⟨x6,xf6⟩:=zz HX.o 6;cases has
  case true =>
   have hb:=HBV.o;simp only[if_true] at hb;replace HBV:=hI hb;clear hb;go_wp2_with fail;refine (zAh te tl tb _).mono ?_;rintro e v ⟨rfl,hb⟩;clear x3 xf3 x4 xf4 x5 xf5 x6 xf6;replace HX:=hI ((hb.block X (zh HX.o)).trans HX.o);replace HP:=hI (HP.o.keep hb.size (fun p hp=>hb.cell hp));replace HBO:=hI (HBO.o.keep hb.size (fun p hp=>hb.cell hp));replace HT:=hI (zG HT.o hb);replace HB:=hI (HB.o.trans (hb.mono HB.o.size));clear hb;cases h5:zQp ⟨te,tl,tb⟩
   case false=>exact uI1
   have hb:=HBV.o;simp only[h5,Bool.true_and] at hb;replace HBV:=hI hb;clear hb h5;obtain⟨x4,xf4⟩:=zz HX.o 4;obtain⟨x5,xf5⟩:=zz HX.o 5;by_cases k:tl=0
   case neg=>have q0:(tl==0)=false:=nB k;have h6:decide (tl=0)=false:=decide_eq_false k;clear k;exact uJN
   subst k;by_cases k:te=2
   case pos=>subst k;exact uAl
   have q0:(te != 2)=true:=nC k;have h6:decide (te=2)=false:=decide_eq_false k;clear k;exact uJN
  have hb:=HBV.o;unfold zEY at hb;simp only[Bool.false_eq_true,if_false] at hb;replace HBV:=hI hb;clear hb;by_cases t0:te=0
  case neg=>have q0:(te==0)=false:=nB t0;have h6:decide (te=0)=false:=decide_eq_false t0;clear t0;exact uJN
  subst t0;by_cases t1:tl=0
  case neg=>have q0:(tl==0)=false:=nB t1;have h6:decide (tl=0)=false:=decide_eq_false t1;clear t1;exact uJN
  subst t1;by_cases t2:tb=0
  case neg=>have q0:(tb==0)=false:=nB t2;have h6:decide (tb=0)=false:=decide_eq_false t2;clear t2;exact uJN
  subst t2;exact uAl
def WrAt (M w:World) (q n:Nat) (nw:Int) (ov:Bool) (ln:Int):Prop :=
 M.heap.size≤q∧Below M.heap.size M w∧∃(p v:Value) (l:List UInt8),w.heap[q]? = some (.cells #[p,v,nw,ov,ln] 177)∧(p=.pointer none∨p=.pointer (some ⟨q,0,none⟩))∧l.length=n∧(n=0→v=.slice none 0 0)∧w.ownsRow M.heap.size 5 1 v n (Lib.byteCells l)
structure WF (M:World) (q:Nat) (W w:World) (n:Nat) (nw:Int) (ov:Bool) (ln:Int):Prop where
 at_:WrAt M w q n nw ov ln
 siz:W.heap.size≤w.heap.size
 old:∀(p:Nat) (cs:Array Value) (t:TypeId) (fr:Nat×Nat),p≠q→t ≠ 5 → W.heap[p]? = some (.cells cs t fr)→w.heap[p]? = some (.cells cs t fr)
section
variable {M W w w':World} {q n n':Nat} {nw nw':Int} {ov ov':Bool} {ln ln':Int}
theorem WrAt.below (h:WrAt M w q n nw ov ln) (hb:Below w.heap.size w w'):WrAt M w' q n nw ov ln:=by
 obtain⟨h1,h2,p,v,l,h3,h4,h5,hz,h6⟩:=h;refine⟨h1,bch h2 hb,p,v,l,(hb.block q (zh h3)).trans h3,h4,h5,hz,?_⟩;refine h6.kept (row:=none) ⟨hb.os,hb.tape,hb.output,hb.size,fun k hk _=>hb.block k hk⟩ ?_;cases hv:v.ownBlock
 · exact .inl rfl
 exact .inr (by simp)
theorem WF.start (h:WrAt M W q n nw ov ln):WF M q W W n nw ov ln:=⟨h,Nat.le_refl _,fun _ _ _ _ _ _ h=>h⟩
theorem WF.below (h:WF M q W w n nw ov ln) (hb:Below w.heap.size w w'):WF M q W w' n nw ov ln :=
 ⟨h.at_.below hb,Nat.le_trans h.siz hb.size,fun p cs t fr h1 h2 h3=>(hb.block p (zh (h.old p cs t fr h1 h2 h3))).trans (h.old p cs t fr h1 h2 h3)⟩
theorem WF.call (h:WF M q W w n nw ov ln) (hc:WF M q w w' n' nw' ov' ln'):WF M q W w' n' nw' ov' ln' :=
 ⟨hc.at_,Nat.le_trans h.siz hc.siz,fun p cs t fr h1 h2 h3=>hc.old p cs t fr h1 h2 (h.old p cs t fr h1 h2 h3)⟩
theorem WF.alloc (h:WF M q W w n nw ov ln) (o:Obj):WF M q W (w.alloc o) n nw ov ln:=h.below (bnew w o)
theorem WF.lt (h:WrAt M w q n nw ov ln):q<w.heap.size:=by
 obtain⟨_,_,_,_,_,h3,_⟩:=h;exact zh h3
theorem WF.put (h:WF M q W w n nw ov ln) (k:Nat) (u:Value) (hk:∀p v,(#[p,v,Value.int .i64 nw,Value.bool ov,Value.int .i64 ln]:Array Value).setIfInBounds k u=#[p,v,Value.int .i64 nw',Value.bool ov',Value.int .i64 ln']):WF M q W (w.setCell ⟨q,k,none⟩ u) n nw' ov' ln':=by
 obtain⟨⟨h1,h2,p,v,l,h3,h4,h5,hz,h6⟩,h7,h8⟩:=h;have ho:=Lib.ownBlock_ne h6 h3 (by decide);have hg:w.grownBy (w.setCell ⟨q,k,none⟩ u) (some q):=⟨rfl,rfl,rfl,by simp[World.setCell],fun k _ hk=>Below.heap_setCell _ _ _ _ (fun e=>hk (by simp[e]))⟩
 refine⟨⟨h1,h2.setCell (p:=⟨q,k,none⟩) h1 _,p,v,l,?_,h4,h5,hz,h6.kept hg (Or.inr ho)⟩,by simpa [World.setCell] using h7,fun p' cs t fr k1 k2 k3=>?_⟩
 · simp only[World.setCell,Array.getElem?_modify,h3,if_true,Option.map_some];rw[←hk p v];rfl
 rw[Below.heap_setCell _ _ _ _ k1];exact h8 p' cs t fr k1 k2 k3
end
def zM0 (M:World) (q:Nat) (W:World) (n:Nat) (nw:Int) (ov:Bool) (ln:Int) (c:Nat) (e:Ending) (w:World):Prop:=e=.returned (.tuple #[])∧∃n',n'≤n+c∧WF M q W w n' nw ov ln
theorem zF7 (M W:World) (q n:Nat) (nw:Nat) (ov:Bool) (ln:Int) (h:WrAt M W q n nw ov ln) (hn:nw≤1000000000000):Calls Tryz.prog 148 #[.pointer (some ⟨q,2,none⟩)] W (zM0 M q W n (nw+1:Nat) (ov || decide (64<nw+1)) ln 0):=by
 have HW:=hI (WF.start h);obtain⟨_,_,p,v,l,h3,_⟩:=h;obtain⟨x2,xf2⟩:=zz h3 2;have hb : -9223372036854775808≤(nw:Int)+1:=by omega
 have hb2:(nw:Int)+1≤9223372036854775807:=by omega
 clear h3;go_enter Tryz.func148,Tryz.ntmps148;go_upto_region 1 with (fail);clear hb hb2 x2 xf2;replace HW:=hI (HW.o.put (nw':=((nw+1:Nat):Int)) (ov':=ov) (ln':=ln) 2 (.int .i64 ((nw+1:Nat):Int)) (fun _ _=>rfl));change Code.wp _ _ _ _ (W.setCell ⟨q,2,none⟩ (.int .i64 ((nw+1:Nat):Int)));generalize W.setCell _ _=w1 at *;obtain⟨_,_,p,v,l,h3,_⟩:=HW.o.at_;obtain⟨x2,xf2⟩:=zz h3 2;obtain⟨x3,xf3⟩:=zz h3 3;clear h3;cases ov
 case true=>go_wp2_with fail;go_end0;exact⟨rfl,n,by omega,HW.o.put 3 _ (fun _ _=>by simp)⟩
 have hd:decide ((64:Int)<((nw+1:Nat):Int))=decide (64<nw+1):=by simp only[decide_eq_decide];omega
 go_wp2_with fail;go_end0;exact⟨rfl,n,by omega,HW.o.put 3 _ (fun _ _=>by simp <;> omega)⟩
theorem zN3 (M W:World) (q n:Nat) (nw:Nat) (ov:Bool) (ln:Int) (h:WrAt M W q n ((nw+1:Nat):Int) ov ln) (hn:nw≤1000000000000):Calls Tryz.prog 151 #[.pointer (some ⟨q,2,none⟩)] W (zM0 M q W n nw ov ln 0):=by
 have HW:=hI (WF.start h);obtain⟨_,_,p,v,l,h3,_⟩:=h;obtain⟨x2,xf2⟩:=zz h3 2;have hb : -9223372036854775808≤((nw+1:Nat):Int)-1:=by omega
 have hb2:((nw+1:Nat):Int)-1≤9223372036854775807:=by omega
 clear h3;go_enter Tryz.func151,Tryz.ntmps151;go_wp2_with fail;go_end0;exact⟨rfl,n,by omega,HW.o.put 2 _ (fun _ _=>by simp <;> omega)⟩
theorem z63 (M W:World) (q n:Nat) (nw:Int) (ov:Bool) (ln:Int) (h:WrAt M W q n nw ov ln):Calls Tryz.prog 48 #[.pointer (some ⟨q,0,none⟩)] W fun e w=>e=.returned (.tuple #[])∧WF M q W w n nw ov ln∧w.cell? ⟨q,0,none⟩=some (.pointer (some ⟨q,0,none⟩))∧w.heap.size=W.heap.size:=by
 have HW:=hI (WF.start h);have hh:=h;obtain⟨h1,h2,p,v,l,h3,h4,h5,hz,h6⟩:=h;obtain⟨x0,xf0⟩:=zz h3 0;rcases h4 with rfl | rfl
 · obtain⟨j,hj,hjs⟩:=Option.map_eq_some_iff.1 (show (Tryz.prog.info? 91).map (·.size)=some 2 by kernel_rfl);have hsh:W.shape? q=some (177,5):=by simp[World.shape?,h3]
   have ho:=Lib.ownBlock_ne h6 h3 (by decide)
   have HF:Jd (WF M q W (W.setCell ⟨q,0,none⟩ (.pointer (some ⟨q,0,none⟩))) n nw ov ln∧(W.setCell ⟨q,0,none⟩ (.pointer (some ⟨q,0,none⟩))).cell? ⟨q,0,none⟩=some (.pointer (some ⟨q,0,none⟩))):=hI (by
    have hq:(W.setCell ⟨q,0,none⟩ (.pointer (some ⟨q,0,none⟩))).heap[q]? = some (.cells #[.pointer (some ⟨q,0,none⟩),v,nw,ov,ln] 177):=by simp[World.setCell,Array.getElem?_modify,h3]
    have hg:W.grownBy (W.setCell ⟨q,0,none⟩ (.pointer (some ⟨q,0,none⟩))) (some q):=⟨rfl,rfl,rfl,by simp[World.setCell],fun k _ hk=>Below.heap_setCell _ _ _ _ (fun e=>hk (by simp[e]))⟩
    refine⟨⟨⟨h1,h2.setCell (p:=⟨q,0,none⟩) h1 _,_,v,l,hq,Or.inr rfl,h5,hz,h6.kept hg (Or.inr ho)⟩,by simp[World.setCell],fun p' cs t fr k1 k2 k3=>?_⟩,(zz hq 0).1⟩;rw[Below.heap_setCell _ _ _ _ k1];exact k3)
   clear HW hh h1 h2 h3 h5 h6 ho;go_enter Tryz.func48,Tryz.ntmps48;go_wp2;rw[Lib.run_to_unsafe W ⟨q,0,none⟩ Tryz.underlying88 Tryz.underlying155 hj (by rw[hjs];decide) hsh (show 0<5 by decide)];simp only[Result.andThen];rw[Oper.upon_value];go_wp2;rw[run_callFunc_extern Tryz.func73 (by kernel_rfl) (by kernel_rfl) (by kernel_rfl) (e:=Extern.AbiNoEscape.same) (by kernel_rfl)];rw[Lib.run_noEscape];simp only[Result.andThen];rw[Oper.upon_value];go_wp2;rw[Lib.run_from_unsafe W ⟨q,0,none⟩ Tryz.underlying155 Tryz.underlying88 hj hsh (by kernel_rfl)];simp only[Result.andThen];rw[Oper.upon_value];go_wp2;go_end0;exact⟨rfl,HF.o.1,HF.o.2,by simp[World.setCell]⟩
 clear h1 h2 h3 h5 h6;obtain⟨j,hj,_⟩:=Option.map_eq_some_iff.1 (show (Tryz.prog.info? 91).map (·.size)=some 2 by kernel_rfl);go_enter Tryz.func48,Tryz.ntmps48;go_wp2;rw[Lib.run_neq_ptr_same W _ Tryz.underlying88 hj];go_wp2;go_end0;exact⟨rfl,HW.o,x0,rfl⟩
theorem zx4 (M W:World) (q n:Nat) (nw:Int) (ov:Bool) (ln:Int) (h:WrAt M W q n nw ov ln) (s:ByteArray) (hl:n+s.size≤140737488355328):Calls Tryz.prog 25 #[.pointer (some ⟨q,0,none⟩),s] W fun e w=>e=.returned (.tuple #[s.size,.nilIface])∧WF M q W w (n+s.size) nw ov ln:=by
 obtain⟨i0,hi,hz0,hz1,hz2⟩:=zQk (show (Tryz.prog.info? 5).map (fun j=>(j.zero,j.size,j.bytes))=some (some (.int .u8 0),1,1) by kernel_rfl);have HC:=hI (z63 M W q n nw ov ln h);clear h;go_enter Tryz.func25,Tryz.ntmps25;go_wp2_with fail;refine (HC.o).mono ?_;rintro e v1 ⟨rfl,hw,c0,hs⟩;have HW:=hI hw;obtain⟨⟨h1,h2,p,v,l,h3,h4,h5,hz,h6⟩,_,_⟩:=hw;subst h5;obtain⟨c1,cf1⟩:=zz h3 1;go_wp2_with (at_builtin;refine Lib.wpList_append_own_string _ rfl _ _ 89 9 rfl M.heap.size 5 i0 Tryz.underlying89 Tryz.underlying9 hi hz0 hz1 hz2 _ _ _ rfl h6 s rfl ?c3 ?c4 ?c5 ?_)
 case c3=>unfold maxLen;omega
 case c4=>omega
 case c5=>exact h2.size
 intro v' v1 hown' hgrow hnil;have ho:=Lib.ownBlock_ne h6 h3 (by decide);have hb2:v1.heap[q]? = some (.cells #[p,v,nw,ov,ln] 177):=by rw[hgrow.block q (zh h3) (fun e=>ho e.symm)];exact h3
 have ho2:=Lib.ownBlock_ne hown' hb2 (by decide);have hb3:(v1.setCell ⟨q,1,none⟩ v').heap[q]? = some (.cells #[p,v',nw,ov,ln] 177):=by simp[World.setCell,Array.getElem?_modify,hb2]
 have hg:v1.grownBy (v1.setCell ⟨q,1,none⟩ v') (some q):=⟨rfl,rfl,rfl,by simp[World.setCell],fun k _ hk=>Below.heap_setCell _ _ _ _ (fun e=>hk (by simp[e]))⟩
 have hll:Lib.byteCells l++Lib.strCells s=Lib.byteCells (l++s.data.toList):=by rw[Lib.strCells_eq,Lib.byteCells_append]
 have HF:Jd (WF M q W (v1.setCell ⟨q,1,none⟩ v') (l.length+s.size) nw ov ln):=hI ⟨⟨h1,(h2.grown hgrow h2.size (fun k hk=>(h6.lt k hk).1)).setCell (p:=⟨q,1,none⟩) h1 _,p,v',l++s.data.toList,hb3,h4,by simp,(fun (e:l.length+s.size=0)=>hnil.2 ⟨hz (Nat.add_eq_zero_iff.1 e).1,by simpa using (Nat.add_eq_zero_iff.1 e).2⟩),by rw[←hll];exact hown'.kept hg (Or.inr ho2)⟩,
  by have:=HW.o.siz;have:=hgrow.size;simp only[World.setCell,Array.size_modify];omega,fun p' cs t fr k1 k2 k3=>by have k4:=HW.o.old p' cs t fr k1 k2 k3;rw[Below.heap_setCell _ _ _ _ k1,hgrow.block p' (zh k4) (fun e=>Lib.ownBlock_ne h6 k4 k2 e.symm)];exact k4⟩
 have d_:=cb2 hb2
 obtain⟨ao,n',cap,rfl⟩:∃ao n' cap,v'=.slice ao n' cap:=by
  rcases hown'.2 with⟨hv,_⟩ | ⟨g,cap,cur,hv,_⟩
  · exact⟨_,_,_,hv⟩
  exact⟨_,_,_,hv⟩
 clear hnil hz hown' hgrow h1 h2 h3 h4 h6 ho hb2 ho2 hb3 hg hll HW hl;go_wp2_with fail;go_ret2;exact⟨rfl,HF.o⟩
def tsz:List ByteArray→Nat
 | []=>0
 | t::l=>t.size+tsz l
theorem zuy (ts:List ByteArray) (i:Nat) (h:i<ts.length):tsz (ts.drop i)=(ts.getD i ⟨#[]⟩).size+tsz (ts.drop (i+1)):=by rw[zD ts i ⟨#[]⟩ h];rfl
theorem zl9 (M W:World) (q n:Nat) (nw:Int) (ov:Bool) (ln:Int) (h:WrAt M W q n nw ov ln) (g:Nat) (ts:List ByteArray) (hg:W.heap[g]? = some (.cells (ts.map .string).toArray 9 (0,0))) (hq:g≠q) (hk:ts.length≤100) (hl:n+tsz ts≤140737488355328) :
  Calls Tryz.prog 112 #[.pointer (some ⟨q,0,none⟩),.slice (some ⟨g,0,none⟩) ts.length ts.length] W (zM0 M q W n nw ov ln (tsz ts)):=by
 have HW0:=hI (WF.start h);have HG:=hI hg;have HQ:=hI hq;have HK:=hI hk;have HL:=hI hl;clear h hg hq hk hl;go_enter Tryz.func112,Tryz.ntmps112;go_wp2_with fail;go_loopw [5,8] (fun _ vi wr=>∃(i m:Nat),i≤ts.length∧vi=.int .i64 i∧WF M q W wr m nw ov ln∧m+tsz (ts.drop i)≤n+tsz ts) (fun _ vi _=>ts.length-(intOf vi).toNat)
 case atStart=>exact⟨0,n,Nat.zero_le _,rfl,HW0.o,Nat.le_refl _⟩
 case round =>
  obtain⟨i,m,hi,rfl,hw,hm⟩:=hrel;by_cases hlt:i<ts.length
  · have HGr:=hI (hw.old g _ _ _ HQ.o (by decide) HG.o);rw[zuy ts i hlt] at hm;have x0:wr.cell? ⟨g,i,none⟩=some (.string (ts.getD i ⟨#[]⟩)):=by rw[Lib.cell_of_heap HGr.o];simp[List.getD_eq_getElem?_getD,hlt]
    generalize ts.getD i ⟨#[]⟩=t at *;have HC:=hI (zx4 M wr q m nw ov ln hw.at_ t (by have:=HL.o;omega));have HW:=hI hw;have HM:=hI hm;have k0:(0:Int)≤(i:Int):=by omega
    have k1:(i:Int)<(ts.length:Int):=by omega
    have k2:=HK.o;clear hw hm hi HGr;go_wp2_with fail;refine (HC.o).mono ?_;rintro e w2 ⟨rfl,hw2⟩;replace HW:=hI (HW.o.call hw2);clear hw2 x0;go_wp2_with fail;go_roundw
    case rel=>exact⟨i+1,_,hlt,rfl,HW.o,by have:=HM.o;omega⟩
    case measure=>show ts.length-((i:Int)+1).toNat<ts.length-(i:Int).toNat;omega
  obtain rfl:i=ts.length:=by omega
  have HW:=hI hw;have HM:=hI hm;clear hw hm;go_wp2_with fail;go_end0;exact⟨rfl,m,by have:=HM.o;omega,HW.o⟩
end Go.Proofs.YtfibdoehmndinaaGreatDoor
