/- Parts of a proof. No condition but those that each theorem names. -/
import Derived.Test.YtfibdoehmndinaaGreatDoorTfPsH
namespace Go.Proofs.YtfibdoehmndinaaGreatDoor
open Go.RowKit
set_option linter.unusedVariables false
set_option maxRecDepth 100000
set_option maxHeartbeats 1000000
section
variable {A:Option Addr} {B:Nat} {S:Nat→Prop} {W W0:World} {bs:List (Nat×TypeId×List Value)} {c d:Nat} {es:List Value} {i:Nat} {l:List TTk} {ps:Int} {q sb:Nat} {ts:List zOU} {w:World} {x:TEx}
section
variable {p:Prop}
theorem uYc (h:p:=by
 rw[hq] at hpost;obtain⟨⟨E,P,rfl,hE⟩,hk⟩:=hpost;have HRT:=HR;rw[hq] at HRT;simp only[zw] at HRT;have HK9:=hI (HF.o.call hk).kp;have HE:=hI hE;clear hq hk hE;go_wp2_with fail;refine⟨rfl,?_⟩;rw[←HPO.o,←HRT.o];exact zTw.none_ HE.o HK9.o):p:=h
end
theorem z9I:∀n,zDq n
 | 0=>⟨fun h hf=>absurd hf (by have:=h.pos;omega),fun k _ _ _ _ _ _ _ _ _ h hf=>absurd hf (by have:=h.pos;omega),fun h hf=>absurd hf (by have:=h.pos;omega),fun h hf=>absurd hf (by have:=h.pos;omega)⟩
 | n+1=>⟨fun h hf=>zrD n (z9I n) h hf,fun k _ _ _ _ _ _ _ h1 h7 h hf=>z8J n (z9I n) k h1 h7 h hf,fun h hf=>zqp n (z9I n) h hf,fun h hf=>ziJ n (z9I n) h hf⟩
def repT (es:List Value) (x:TEx):zOU:=⟨fun w B=>exE.rep w B es x,fun h hB hk=>zV h hB hk⟩
theorem Frm.addAt (h:Frm S W w bs ts) (T:zOU) (ht:T.p (MkW W.heap.size (bs.map (fun b=>b.1)) w) w.heap.size):Frm S W w bs (T::ts) :=
 ⟨h.kp,h.old,h.sub,h.blk,h.dis,fun T' hT=>by
  rcases List.mem_cons.1 hT with rfl | hT
  · exact ht
  · exact h.tr T' hT⟩
theorem Frm.elem (h:Frm S W w bs ts) {cp:Nat} (hm:slT zV (.slice A 1 cp) [x]∈ts) :
  ∃b off es,A=some ⟨b,off,none⟩∧es.length=5∧(∀(j:Nat) (u:Value),es[j]? = some u→w.cell? ⟨b,off+j,none⟩=some u)∧Frm S W w bs (repT es x::ts):=by
 obtain⟨A',c',e,_,hx⟩:=h.tr _ hm;injection e with e1 e2 e3;subst e1;obtain⟨b,off,es,e4,hb,hr,hc⟩:=hx 0 x rfl;refine⟨b,off,es,e4,exE.len hr,fun j u hu=>?_,h.addAt (repT es x) hr⟩;have h2:=hc j u hu;rw[show off+0*exE.size+j=off+j by omega] at h2;exact (z17 h2).2.2
theorem zfK (h:exE.rep w B es x):∃v,es=zem x v∧exSm x∧zj exE w B v x.args:=by
 obtain⟨n,h⟩:=h;cases n
 case zero=>exact h.elim
 rename_i n;obtain⟨h0,v,e,h1⟩:=h;exact⟨v,e,h0,zj.up (E':=exE) (by rw[zWx];rfl) (fun h=>⟨n,h⟩) h1⟩
theorem zvN {M:World} {g:Nat} {y:TEx} {fs:List Value} {ty:TypeId} (zs:List Value) (hb:M.heap[g]? = some (.cells (es++fs++zs).toArray ty (0,0))) (hg:g<B) (h1:exE.rep M B es x) (h2:exE.rep M B fs y) {cap:Nat} (hc:2≤cap):zj exE M B (.slice (some ⟨g,0,none⟩) 2 cap) [x,y]:=by
 obtain⟨v1,rfl,a1,b1⟩:=zfK h1;obtain⟨v2,rfl,a2,b2⟩:=zfK h2;exact zQh zs hb hg a1 a2 b1 b2 hc
def ztp (lo:Nat) (w:World) (u:Value) (t:List TEx):Prop:=∃b x,t=[x]∧u=.slice (some ⟨b,0,none⟩) 1 1∧zj exE (LoW lo w) w.heap.size u t
theorem zj1 (one:Nat→Nat→PR TEx) (h:PsAt W q A c l i d) (hone:∀w j,PsAt w q A c l j (d+1)→i+1≤j→Calls Tryz.prog 85 #[.pointer (some ⟨q,0,none⟩)] w (zt q A c l (RExE w.heap.size) j (d+1) 1 (one j (d+1)) w)) :
  Calls Tryz.prog 108 #[.pointer (some ⟨q,0,none⟩)] W (zt q A c l (ztp W.heap.size) i d 1 (zqX l one i d) W):=by
 have HP:=hI h;have HF:=hI (Frm.start (S:=qS q) W (fun x e=>by have e2:x=q:=e;have:=h.lt;omega));have HLN:=hI h.ok.1;have HONE:=hI hone;obtain⟨r,hr⟩:∃r,zqX l one i d=r:=⟨_,rfl⟩
 rw[hr];have HR:=hI hr;generalize hPO:zt q A c l (ztp W.heap.size) i d 1 r W=PO;have HPO:=hI hPO;clear hr hPO h hone;go_enter Tryz.func108,Tryz.ntmps108;unfold zqX at HR;go_wp2_with fail;refine (zU9 ⟨#[91]⟩ HP.o).mono ?_;intro e v1 hpost;cases hq:z4y l ⟨#[91]⟩ i d
 case none=>exact uA0
 rename_i x;obtain⟨t,j,d2⟩:=x
 obtain⟨⟨u,rfl,hR⟩,HP,hk,rfl,Hhij,HR⟩:=ppS hpost hq HR;replace HF:=hI (HF.o.call hk);clear hq hk;go_wp2_with fail;refine (HONE.o v1 j HP.o Hhij.out).mono ?_;intro e v1 hpost;cases hq:one j (d+1)
 case none=>exact uA0
 rename_i x;obtain⟨⟨xk,xp,xn,xs,xa⟩,j2,d2⟩:=x
 obtain⟨⟨u,rfl,hR⟩,HP,hk,rfl,Hhij2,HR⟩:=ppS hpost hq HR;obtain⟨hsm,v,hu,hT⟩:=hR;have hT:zj exE _ _ v xa:=hT;obtain⟨xA,xc,hv,_⟩:=hT.shape;subst hv;replace hu:u=.agg #[xk,xp,xn,xs,.slice xA xa.length xc]:=hu;subst hu;have HSMx:=hI hsm;clear hsm;replace HF:=hI (HF.o.callT hk (slT zV (.slice xA xa.length xc) xa) hT);clear hq hk;go_upto_region 3 with (fail);replace HF:=hI (HF.o.alloc 153 [xk,xp,xn,xs,.slice xA xa.length xc]);replace HP:=hI (HP.o.below (bw HF));generalize v1.alloc _=v2 at *;generalize v1.heap.size=Y at HF ⊢;go_wp2_with fail;refine (z8C ⟨#[93]⟩ HP.o (by omega)).mono ?_;intro e v1 hpost;cases hq:zSt l ⟨#[93]⟩ j2 (d+1)
 case none=>exact uA0
 rename_i x;obtain⟨t3,j3,d2⟩:=x
 obtain⟨⟨u,rfl,hR⟩,HP,hk,rfl,Hhij3,HR⟩:=ppS hpost hq HR;replace HF:=hI (HF.o.call hk);clear hq hk;have y_:=cb5 (HF.o.at_ 0 rfl);go_wp2_with fail;replace HP:=hI (HP.o.below (bnew v1 (.cells #[xk,xp,xn,xs,.slice xA xa.length xc] 153)));replace HF:=hI ((HF.o.alloc 153 [xk,xp,xn,xs,.slice xA xa.length xc]).wrap (slT zV (.slice (some ⟨_,0,none⟩) 1 1) [(TEx.mk xk xp xn xs xa)]) (fun M hb hg hts=>zkR hb hg HSMx.o (hts _ (List.mem_cons_self ..))));generalize v1.alloc _=v2 at *;generalize v1.heap.size=Z at *;clear y_;rw[←HPO.o,←HR.o];exact⟨⟨_,rfl,Z,_,rfl,rfl,HF.o.tree 0 rfl⟩,HP.o,HF.o.kp,rfl,by have:=Hhij.out;have:=Hhij2.out;have:=Hhij3.out;try simp only;omega⟩
theorem zYR (one:Nat→Nat→PR TEx) (h:PsAt W q A c l i d) (hone:Calls Tryz.prog 85 #[.pointer (some ⟨q,0,none⟩)] W (zt q A c l (RExE W.heap.size) i d 1 (one i d) W)) :
  Calls Tryz.prog 84 #[.pointer (some ⟨q,0,none⟩)] W (zt q A c l (ztp W.heap.size) i d 1 (pEnd l one i d) W):=by
 have HP:=hI h;have HF:=hI (Frm.start (S:=qS q) W (fun x e=>by have e2:x=q:=e;have:=h.lt;omega));have HLN:=hI h.ok.1;have HONE:=hI hone;obtain⟨r,hr⟩:∃r,pEnd l one i d=r:=⟨_,rfl⟩
 rw[hr];have HR:=hI hr;generalize hPO:zt q A c l (ztp W.heap.size) i d 1 r W=PO;have HPO:=hI hPO;clear hr hPO h hone;go_enter Tryz.func84,Tryz.ntmps84;unfold pEnd at HR;go_wp2_with fail;refine (HONE.o).mono ?_;intro e v1 hpost;cases hq:one i d
 case none=>exact uA0
 rename_i x;obtain⟨⟨xk,xp,xn,xs,xa⟩,j2,d2⟩:=x
 obtain⟨⟨u,rfl,hR⟩,HP,hk,rfl,Hhij2,HR⟩:=ppS hpost hq HR;obtain⟨hsm,v,hu,hT⟩:=hR;have hT:zj exE _ _ v xa:=hT;obtain⟨xA,xc,hv,_⟩:=hT.shape;subst hv;replace hu:u=.agg #[xk,xp,xn,xs,.slice xA xa.length xc]:=hu;subst hu;have HSMx:=hI hsm;clear hsm;replace HF:=hI (HF.o.callT hk (slT zV (.slice xA xa.length xc) xa) hT);clear hq hk;go_upto_region 2 with (fail);replace HF:=hI (HF.o.alloc 153 [xk,xp,xn,xs,.slice xA xa.length xc]);replace HP:=hI (HP.o.below (bw HF));generalize v1.alloc _=v2 at *;generalize v1.heap.size=Y at HF ⊢;go_wp2_with fail;refine (zn8 ⟨#[59]⟩ HP.o).mono ?_;intro e v1 hpost;cases hq:zi0 l ⟨#[59]⟩ j2 d
 case none=>exact uA0
 rename_i x;obtain⟨t3,j3,d2⟩:=x
 obtain⟨⟨u,rfl,hR⟩,HP,hk,rfl,Hhij3,HR⟩:=ppS hpost hq HR;replace HF:=hI (HF.o.call hk);clear hq hk;have y_:=cb5 (HF.o.at_ 0 rfl);go_wp2_with fail;replace HP:=hI (HP.o.below (bnew v1 (.cells #[xk,xp,xn,xs,.slice xA xa.length xc] 153)));replace HF:=hI ((HF.o.alloc 153 [xk,xp,xn,xs,.slice xA xa.length xc]).wrap (slT zV (.slice (some ⟨_,0,none⟩) 1 1) [(TEx.mk xk xp xn xs xa)]) (fun M hb hg hts=>zkR hb hg HSMx.o (hts _ (List.mem_cons_self ..))));generalize v1.alloc _=v2 at *;generalize v1.heap.size=Z at *;clear y_;rw[←HPO.o,←HR.o];exact⟨⟨_,rfl,Z,_,rfl,rfl,HF.o.tree 0 rfl⟩,HP.o,HF.o.kp,rfl,by have:=Hhij2.out;have:=Hhij3.out;try simp only;omega⟩
def zTw (q:Nat) (A:Option Addr) (c:Nat) (l:List TTk) (ps:Int) (sb:Nat) (bs:List (Nat×TypeId×List Value)) (ts:List zOU) (i d:Nat) (r:PR TSt) (W0:World) (e:Ending) (w':World):Prop:=match r with
 | some x=>e=.returned (.tuple #[])∧PsAt w' q A c l x.2.1 x.2.2∧x.2.2=d∧i+1≤x.2.1∧∃kind name args va,x.1=.mk kind ps 0 name ⟨0,0,0⟩ args [] [] false∧stSm x.1∧Frm (qS q) W0 w' ((sb, 126,[.int .i64 kind,ps,.int .i64 0,.string name,.int .i64 0,.int .i64 0,.int .i64 0,va,.slice none 0 0,.slice none 0 0,false])::bs) (slT zV va args::ts)∧∃Az cz,va=.slice Az args.length cz
 | none=>(∃E P,e=.panicked [{ v:=zci E P,recovered:=false }]∧E≠0)∧Kp (qS q) W0 w'
theorem zTw.none_ {w':World} {E P:Int} (hE:E≠0) (hk:Kp (qS q) W0 w'):zTw q A c l ps sb bs ts i d none W0 (.panicked [{ v:=zci E P,recovered:=false }]) w':=⟨⟨E,P,rfl,hE⟩,hk⟩
theorem zwY (n:Nat) (hw:zDq n) (h:PsAt W q A c l i d) (hps:(zb2 l i).pos=ps) (hfr:Frm (qS q) W0 W ((sb, 126,[.int .i64 0,ps,.int .i64 0,.string ⟨#[]⟩,.int .i64 0,.int .i64 0,.int .i64 0,.slice none 0 0,.slice none 0 0,.slice none 0 0,false])::bs) ts) (hf:16*(l.length-i)≤n) :
  Calls Tryz.prog 86 #[.pointer (some ⟨q,0,none⟩),.pointer (some ⟨sb,0,none⟩)] W (zTw q A c l ps sb bs ts i d (zjq l (fun i d=>z4a l n i d) n i d) W0):=by
 have HP:=hI h;have HF:=hI hfr;have HW:=hI hw;have HFU:=hI hf;have HPS:=hI hps;have HLN:=hI h.ok.1;have HLT:=hI (show sb<W.heap.size from zh (hfr.blk _ (List.mem_cons_self ..)));obtain⟨r,hr⟩:∃r,zjq l (fun i d=>z4a l n i d) n i d=r:=⟨_,rfl⟩
 rw[hr];have HR:=hI hr;generalize hPO:zTw q A c l ps sb bs ts i d r W0=PO;have HPO:=hI hPO;clear hr hPO h hfr hw hf hps;go_enter Tryz.func86,Tryz.ntmps86;unfold zjq at HR;go_wp2_with fail;refine (znY 1 (by decide) HP.o).mono ?_;intro e v1 hpost;cases hq:zHr l 1 i d
 case none=>exact uYc
 rename_i x;obtain⟨⟨tk1,tp1,tn1,tt1⟩,j,d2⟩:=x
 obtain⟨⟨u,rfl,hR⟩,HP,hk,rfl,Hhij,HR⟩:=ppS hpost hq HR;have HTP:Jd (tp1=ps):=hI (by obtain⟨h1,_⟩:=zF2 hq;have h2:=congrArg TTk.pos h1;rw[←HPS.o];exact h2.symm);have hu:u=.agg #[tk1,tp1,tn1,tt1]:=hR.1;subst hu;have HTB1:=hI hR.2;simp only at HTB1;clear hR;replace HF:=hI (HF.o.call hk);clear hq hk;rw[HPS.o] at HR;go_upto_region 1 with (fail);replace HF:=hI (HF.o.alloc 56 [tk1,tp1,tn1,tt1]);replace HP:=hI (HP.o.below (bw HF));generalize v1.alloc _=v2 at *;generalize v1.heap.size=Y at HF ⊢;obtain⟨t3,tf3⟩:=zz (HF.o.at_ 0 rfl) 3;obtain⟨s3,sf3⟩:=zz (HF.o.at_ 1 rfl) 3;go_upto_region 4 with (fail);clear t3 tf3 s3 sf3;replace HP:=hI (HP.o.setX (HF.o.far 1 rfl rfl) 3 (.string tt1));replace HF:=hI (HF.o.set 1 rfl 3 (.string tt1));generalize v2.setCell _ _=v1 at *;go_wp2_with fail;refine (zE6 ⟨#[40]⟩ HP.o).mono ?_;intro e v1 hpost;cases hb:pIs l ⟨#[40]⟩ j
 case true =>
  rw[hb] at hpost;obtain⟨rfl,hbb⟩:=hpost;replace HP:=hI (HP.o.below hbb);replace HF:=hI (HF.o.below hbb);clear hbb;have Ha:=hI hb;clear hb;simp only[Ha.out,if_true] at HR;obtain⟨s0,sf0⟩:=zz (HF.o.at_ 1 rfl) 0;obtain⟨s3,sf3⟩:=zz (HF.o.at_ 1 rfl) 3;go_upto_region 6 with (fail);clear s0 sf0 s3 sf3;replace HP:=hI (HP.o.setX (HF.o.far 1 rfl rfl) 0 (.int .i64 7));replace HF:=hI (HF.o.set 1 rfl 0 (.int .i64 7));generalize v1.setCell _ _=v1 at *;replace HP:=hI (HP.o.setX (HF.o.far 1 rfl rfl) 3 (.string ⟨#[]⟩));replace HF:=hI (HF.o.set 1 rfl 3 (.string ⟨#[]⟩));generalize v1.setCell _ _=v2 at *;obtain⟨⟨t0,tf0⟩,⟨t1,tf1⟩,⟨t2,tf2⟩,t3,tf3⟩:=cb4 (HF.o.at_ 0 rfl);go_wp2_with fail;refine (zj6 (fun i d=>z4a l n i d) n tk1 tp1 tn1 tt1 HTB1.o.1 HP.o (fun w j' hp hj=>HW.o.expr hp (by have:=HFU.o;have:=hp.pos;have:=Hhij.out;omega)) (by have:=HFU.o;have:=HP.o.pos;have:=Hhij.out;omega)).mono ?_;intro e v3 hpost;cases hq:ze3 l (fun i d=>z4a l n i d) n ⟨tk1,tp1,tn1,tt1⟩ j d
  case none=>rw[hq] at hpost;obtain⟨⟨E,P,rfl,hE⟩,hk⟩:=hpost;have HRT:=HR;rw[hq] at HRT;simp only[zw] at HRT;have HK9:=hI (HF.o.call hk).kp;have HE:=hI hE;clear hq hk hE t0 tf0 t1 tf1 t2 tf2 t3 tf3;go_wp2_with fail;refine⟨rfl,?_⟩;rw[←HPO.o,←HRT.o];exact zTw.none_ HE.o HK9.o
  rename_i x;obtain⟨⟨xk,xp,xn,xs,xa⟩,j2,d2⟩:=x
  obtain⟨⟨u,rfl,hR⟩,HP,hk,rfl,Hhij2,HR⟩:=ppS hpost hq HR;obtain⟨hsm,v,hu,hT⟩:=hR;have hT:zj exE _ _ v xa:=hT;obtain⟨xA,xc,hv,_⟩:=hT.shape;subst hv;replace hu:u=.agg #[xk,xp,xn,xs,.slice xA xa.length xc]:=hu;subst hu;have HSMx:=hI hsm;clear hsm;replace HF:=hI (HF.o.callT hk (slT zV (.slice xA xa.length xc) xa) hT);clear hq hk t0 tf0 t1 tf1 t2 tf2 t3 tf3;obtain⟨s7,sf7⟩:=zz ((HF.o.alloc 153 [xk,xp,xn,xs,.slice xA xa.length xc]).at_ 2 rfl) 7;go_upto_region 7 with (fail);clear s7 sf7;obtain⟨Z,hZ⟩:∃Z,v3.heap.size=Z:=⟨_,rfl⟩
  replace HP:=hI (HP.o.below (bnew v3 (.cells #[xk,xp,xn,xs,.slice xA xa.length xc] 153)));replace HF:=hI ((HF.o.alloc 153 [xk,xp,xn,xs,.slice xA xa.length xc]).wrap (slT zV (.slice (some ⟨_,0,none⟩) 1 1) [(TEx.mk xk xp xn xs xa)]) (fun M hb hg hts=>zkR hb hg HSMx.o (hts _ (List.mem_cons_self ..))));rw[hZ] at HF ⊢;clear hZ;generalize v3.alloc _=v4 at *;replace HP:=hI (HP.o.setX (HF.o.far 1 rfl rfl) 7 (.slice (some ⟨Z,0,none⟩) 1 1));replace HF:=hI (HF.o.set 1 rfl 7 (.slice (some ⟨Z,0,none⟩) 1 1));generalize v4.setCell _ _=v5 at *;go_wp2_with fail;refine (zn8 ⟨#[59]⟩ HP.o).mono ?_;intro e v6 hpost;cases hq:zi0 l ⟨#[59]⟩ j2 d
  case none=>exact uYc
  rename_i x;obtain⟨t3,j3,d2⟩:=x
  obtain⟨⟨u,rfl,hR⟩,HP,hk,rfl,Hhij3,HR⟩:=ppS hpost hq HR;replace HF:=hI (HF.o.call hk);clear hq hk;go_wp2_with fail;go_end0;rw[←HPO.o,←HR.o];exact⟨rfl,HP.o,rfl,by have:=Hhij.out;have:=Hhij2.out;have:=Hhij3.out;try simp only;omega,7,⟨#[]⟩,[(TEx.mk xk xp xn xs xa)],.slice (some ⟨Z,0,none⟩) 1 1,rfl,⟨by show (0:Nat)≤65536;decide,by show (1:Nat)≤65536;decide,by show (0:Nat)≤65536;decide,by show (0:Nat)≤65536;decide⟩,HF.o.less (List.sublist_cons_self ..) (fun T hT=>(List.mem_cons.1 hT).elim (fun h=>h ▸ List.mem_cons_self ..) (fun h=>by simp[h])),_,_,rfl⟩
 rw[hb] at hpost;obtain⟨rfl,hbb⟩:=hpost;replace HP:=hI (HP.o.below hbb);replace HF:=hI (HF.o.below hbb);clear hbb;have Ha:=hI hb;clear hb;go_wp2_with fail;refine (zE6 ⟨#[91]⟩ HP.o).mono ?_;intro e v1 hpost;cases hb:pIs l ⟨#[91]⟩ j
 case false =>
  rw[hb] at hpost;obtain⟨rfl,hbb⟩:=hpost;replace HP:=hI (HP.o.below hbb);replace HF:=hI (HF.o.below hbb);clear hbb;have Hb:=hI hb;clear hb;simp only[Ha.out,Hb.out,Bool.false_eq_true,if_false] at HR;go_wp2_with fail;refine (zn8 ⟨#[61]⟩ HP.o).mono ?_;intro e v2 hpost;cases hq:zi0 l ⟨#[61]⟩ j d
  case none=>exact uYc
  rename_i x;obtain⟨t3,j3,d2⟩:=x
  obtain⟨⟨u,rfl,hR⟩,HP,hk,rfl,Hhij3,HR⟩:=ppS hpost hq HR;replace HF:=hI (HF.o.call hk);clear hq hk;go_wp2_with fail;refine (zYR (fun i d=>z4a l n i d) HP.o (HW.o.expr HP.o (by have:=HFU.o;have:=HP.o.pos;have:=Hhij.out;have:=Hhij3.out;omega))).mono ?_;intro e v3 hpost;cases hq:pEnd l (fun i d=>z4a l n i d) j3 d
  case none=>exact uYc
  rename_i x;obtain⟨ys,j4,d2⟩:=x
  obtain⟨⟨u,rfl,hR⟩,HP,hk,rfl,Hhij4,HR⟩:=ppS hpost hq HR;obtain⟨by_,y,rfl,rfl,hT⟩:=hR;replace HF:=hI (HF.o.callT hk (slT zV (.slice (some ⟨by_,0,none⟩) 1 1) [y]) hT);clear hq hk;obtain⟨s0,sf0⟩:=zz (HF.o.at_ 1 rfl) 0;obtain⟨s7,sf7⟩:=zz (HF.o.at_ 1 rfl) 7;go_wp2_with fail;clear s0 sf0 s7 sf7;replace HP:=hI ((HP.o.setX (HF.o.far 1 rfl rfl) 0 (.int .i64 3)).setX (HF.o.far 1 rfl rfl) 7 (.slice (some ⟨by_,0,none⟩) 1 1));replace HF:=hI ((HF.o.set 1 rfl 0 (.int .i64 3)).set 1 rfl 7 (.slice (some ⟨by_,0,none⟩) 1 1));go_end0;rw[←HPO.o,←HR.o];exact⟨rfl,HP.o,rfl,by have:=Hhij.out;have:=Hhij3.out;have:=Hhij4.out;try simp only;omega,3,tt1,[y],.slice (some ⟨by_,0,none⟩) 1 1,rfl,⟨HTB1.o.1,by show (1:Nat)≤65536;decide,by show (0:Nat)≤65536;decide,by show (0:Nat)≤65536;decide⟩,HF.o.less (List.sublist_cons_self ..) (fun T hT=>(List.mem_cons.1 hT).elim (fun h=>h ▸ List.mem_cons_self ..) (fun h=>by simp[h])),_,_,rfl⟩
 rw[hb] at hpost;obtain⟨rfl,hbb⟩:=hpost;replace HP:=hI (HP.o.below hbb);replace HF:=hI (HF.o.below hbb);clear hbb;have Hb:=hI hb;clear hb;simp only[Ha.out,Hb.out,if_true,Bool.false_eq_true,if_false] at HR;obtain⟨s0,sf0⟩:=zz (HF.o.at_ 1 rfl) 0;go_upto_region 10 with (fail);clear s0 sf0;replace HP:=hI (HP.o.setX (HF.o.far 1 rfl rfl) 0 (.int .i64 4));replace HF:=hI (HF.o.set 1 rfl 0 (.int .i64 4));generalize v1.setCell _ _=v2 at *;go_wp2_with fail;refine (zj1 (fun i d=>z4a l n i d) HP.o (fun w j' hp hj=>HW.o.expr hp (by have:=HFU.o;have:=hp.pos;have:=Hhij.out;omega))).mono ?_;intro e v3 hpost;cases hq:zqX l (fun i d=>z4a l n i d) j d
 case none=>exact uYc
 rename_i x;obtain⟨xs,j2,d2⟩:=x
 obtain⟨⟨u,rfl,hR⟩,HP,hk,rfl,Hhij2,HR⟩:=ppS hpost hq HR;obtain⟨bx,x,rfl,rfl,hT⟩:=hR;replace HF:=hI (HF.o.callT hk (slT zV (.slice (some ⟨bx,0,none⟩) 1 1) [x]) hT);clear hq hk;go_wp2_with fail;refine (zn8 ⟨#[61]⟩ HP.o).mono ?_;intro e v4 hpost;cases hq:zi0 l ⟨#[61]⟩ j2 d
 case none=>exact uYc
 rename_i x;obtain⟨t3,j3,d2⟩:=x
 obtain⟨⟨u,rfl,hR⟩,HP,hk,rfl,Hhij3,HR⟩:=ppS hpost hq HR;replace HF:=hI (HF.o.call hk);clear hq hk;go_wp2_with fail;refine (zYR (fun i d=>z4a l n i d) HP.o (HW.o.expr HP.o (by have:=HFU.o;have:=HP.o.pos;have:=Hhij.out;have:=Hhij2.out;have:=Hhij3.out;omega))).mono ?_;intro e v5 hpost;cases hq:pEnd l (fun i d=>z4a l n i d) j3 d
 case none=>exact uYc
 rename_i x;obtain⟨ys,j4,d2⟩:=x
 obtain⟨⟨u,rfl,hR⟩,HP,hk,rfl,Hhij4,HR⟩:=ppS hpost hq HR;obtain⟨by_,y,rfl,rfl,hT⟩:=hR;replace HF:=hI (HF.o.callT hk (slT zV (.slice (some ⟨by_,0,none⟩) 1 1) [y]) hT);clear hq hk;obtain⟨b1,o1,es,hA1,hl1,hc1,hf1⟩:=HF.o.elem (x:=x) (List.mem_cons_of_mem _ (List.mem_cons_self ..));cases hA1;obtain⟨b2,o2,fs,hA2,hl2,hc2,hf2⟩:=hf1.elem (x:=y) (List.mem_cons_of_mem _ (List.mem_cons_self ..));cases hA2;obtain⟨i0,hi0,hz0,hz1,hz2⟩:=zQk (show (Tryz.prog.info? 153).map (fun i=>(i.zero,i.size,i.bytes))=some (some (.agg #[.int .i64 0,.int .i64 0,.int .i64 0,.string ⟨#[]⟩,.slice none 0 0]),5,64) by kernel_rfl);have hrun:=run_append_grow (P:=Tryz.prog) v5 124 124 153 i0 _ Tryz.underlying124 hi0 hz0 ⟨bx,0,none⟩ 1 1 es (by rw[hz1,hl1]) (fun j u hu=>by rw[Addr.add_lit];exact hc1 j u hu) ⟨by_,0,none⟩ 1 1 fs (by rw[hz1,hl2]) (fun j u hu=>by rw[Addr.add_lit];exact hc2 j u hu) (by decide) (by decide) (by rw[hz2];decide);have hge:=grownCap_ge v5 (1+1) 1 153;generalize grownCap v5 (1+1) 1 153 = cp at *;have HFy:=hf2.drew.allocN v5.heap.size rfl 153 (es++fs++(Builtin.zeroCells (Value.cells (.agg #[.int .i64 0,.int .i64 0,.int .i64 0,.string ⟨#[]⟩,.slice none 0 0])) (cp-(1+1))).toList);have hze:(es++fs++(Builtin.zeroCells (Value.cells (.agg #[.int .i64 0,.int .i64 0,.int .i64 0,.string ⟨#[]⟩,.slice none 0 0])) (cp-(1+1))).toList:List Value).toArray=es.toArray++fs.toArray++(Builtin.zeroCells (Value.cells (.agg #[.int .i64 0,.int .i64 0,.int .i64 0,.string ⟨#[]⟩,.slice none 0 0])) (cp-(1+1))):=by simp
 have HPy:=HP.o.below ((bdr (Below.refl _ _)).trans (bnew v5.drew (.cells (es++fs++(Builtin.zeroCells (Value.cells (.agg #[.int .i64 0,.int .i64 0,.int .i64 0,.string ⟨#[]⟩,.slice none 0 0])) (cp-(1+1))).toList).toArray 153)));rw[hze] at HFy HPy;obtain⟨wG,hwG⟩:∃w',v5.drew.alloc (.cells (es.toArray++fs.toArray++(Builtin.zeroCells (Value.cells (.agg #[.int .i64 0,.int .i64 0,.int .i64 0,.string ⟨#[]⟩,.slice none 0 0])) (cp-(1+1)))) 153)=w':=⟨_,rfl⟩
 rw[hwG] at HFy HPy hrun;obtain⟨G,hG⟩:∃G,v5.heap.size=G:=⟨_,rfl⟩
 rw[hG] at HFy hrun;have HFG:=hI (HFy.wrap (slT zV (.slice (some ⟨G,0,none⟩) 2 cp) [x,y]) (fun M hb hg hts=>zvN (Builtin.zeroCells (Value.cells (.agg #[.int .i64 0,.int .i64 0,.int .i64 0,.string ⟨#[]⟩,.slice none 0 0])) (cp-(1+1))).toList hb hg (hts (repT es x) (by simp)) (hts (repT fs y) (by simp)) hge));have HPG:=hI HPy;have HRUN:=hI hrun;clear hi0 hz0 hz1 hz2 i0 hze HFy HPy hrun hwG hge hG hc1 hc2 hf1 hf2 hl1 hl2;obtain⟨s7,sf7⟩:=zz (HFG.o.at_ 1 rfl) 7;go_wp2_with (at_builtin;refine zEF rfl (.tmp 52) (.tmp 54) 124 rfl HRUN.o rfl rfl ?_);clear s7 sf7;replace HP:Jd (PsAt wG q A c l j4 d):=hI HPG.o;replace HF:=hI HFG.o;clear HPG HFG HRUN;replace HP:=hI (HP.o.setX (HF.o.far 1 rfl rfl) 7 (.slice (some ⟨G,0,none⟩) 2 cp));replace HF:=hI (HF.o.set 1 rfl 7 (.slice (some ⟨G,0,none⟩) 2 cp));go_end0;rw[←HPO.o,←HR.o];exact⟨rfl,HP.o,rfl,by have:=Hhij.out;have:=Hhij2.out;have:=Hhij3.out;have:=Hhij4.out;try simp only;omega,4,tt1,[x,y],.slice (some ⟨G,0,none⟩) 2 cp,rfl,⟨HTB1.o.1,by show (2:Nat)≤65536;decide,by show (0:Nat)≤65536;decide,by show (0:Nat)≤65536;decide⟩,HF.o.less (List.sublist_cons_self ..) (fun T hT=>(List.mem_cons.1 hT).elim (fun h=>h ▸ List.mem_cons_self ..) (fun h=>by simp[h])),_,_,rfl⟩
end
end Go.Proofs.YtfibdoehmndinaaGreatDoor
