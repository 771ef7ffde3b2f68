/- Parts of a proof, joined. No condition but those that each theorem names. -/
import Derived.Test.YtfibdoehmndinaaGreatDoorTfPsK
namespace Go.Proofs.YtfibdoehmndinaaGreatDoor
open Go.RowKit
set_option linter.unusedVariables false
set_option maxRecDepth 100000
set_option maxHeartbeats 1000000
section
variable {A:Option Addr} {W:World} {c d i:Nat} {l:List TTk} {q:Nat}
def zYk (lo:Nat) (w:World) (u:Value) (t:List TPa):Prop:=t.length≤65536∧zj zGc (LoW lo w) w.heap.size u t
def fuE:Enc TFu:=⟨8,fun w B es t=>∃n,(zHM n).rep w B es t,fun h=>by obtain⟨n,h⟩:=h;rw[(zHM n).len h];rfl,fun h hB hk=>by
 obtain⟨n,h⟩:=h
 exact⟨n,(zHM n).keep h hB hk⟩⟩
theorem zBF:zOH fuE:=fun h hB hk=>by
 obtain⟨n,h⟩:=h
 exact⟨n,zNi n h hB hk⟩
theorem zKi {w:World} {B:Nat} {t:TFu} {vp vb:Value} (h0:fuSm t) (h1:zj zGc w B vp t.params) (h2:zj stE w B vb t.body):fuE.rep w B (zPW t vp vb) t:=by
 obtain⟨n,h2⟩:=slSt h2;exact⟨n,h0,vp,vb,rfl,h1,h2⟩
def RFuE (lo:Nat) (w:World) (u:Value) (t:TFu):Prop:=fuSm t∧∃vp vb,u=.agg (zPW t vp vb).toArray∧zj zGc (LoW lo w) w.heap.size vp t.params∧zj stE (LoW lo w) w.heap.size vb t.body
theorem zxd (bx:Nat) (h:PsAt W q A c l i d) (hb:W.heap[bx]? = some (.cells #[.pointer (some ⟨q,0,none⟩)] 52 (0,0))) :
  Calls Tryz.prog 36 #[.pointer (some ⟨bx,0,none⟩)] W (zt q A c l RPa i d 1 (z43 l i d) W):=by
 have hbx:bx≠q:=fun e=>by rw[e,h.blk] at hb;cases hb
 have HBX:=hI ((Kp.of_below (S:=qS q) (bnew W (.cells #[.int .i64 0,.string ⟨#[]⟩,.int .i64 0,.int .i64 0,.int .i64 0,false] 65))).blk bx _ hbx hb);have HC:=hI (zFi (h.below (bnew W (.cells #[.int .i64 0,.string ⟨#[]⟩,.int .i64 0,.int .i64 0,.int .i64 0,false] 65))));have HP:=hI (h.below (bnew W (.cells #[.int .i64 0,.string ⟨#[]⟩,.int .i64 0,.int .i64 0,.int .i64 0,false] 65)));have HF:=hI ((Frm.start (S:=qS q) W (fun x e=>by have e2:x=q:=e;have:=h.lt;omega)).alloc 65 [.int .i64 0,.string ⟨#[]⟩,.int .i64 0,.int .i64 0,.int .i64 0,false]);obtain⟨r,hr⟩:∃r,z43 l i d=r:=⟨_,rfl⟩
 rw[hr];have HR:=hI hr;generalize hPO:zt q A c l RPa i d 1 r W=PO;have HPO:=hI hPO;clear hr hPO h hb hbx;go_enter Tryz.func36,Tryz.ntmps36;go_upto_region 1 with (fail);generalize W.alloc _=v1 at *;generalize W.heap.size=X0 at HF ⊢;obtain⟨b0,bf0⟩:=zz HBX.o 0;go_wp2_with fail;refine (HC.o).mono ?_;intro e v1 hpost;rw[HR.o] at hpost;cases r
 case none=>obtain⟨⟨E,P,rfl,hE⟩,hk⟩:=hpost;have HK9:=hI (HF.o.call hk).kp;exact uKX
 rename_i x;obtain⟨⟨pp,pn,⟨pte,ptl,ptb⟩,po⟩,j,d2⟩:=x;obtain⟨⟨u,rfl,hR⟩,hp,hk,hdd,hij⟩:=hpost;obtain rfl:d=d2:=hdd.symm;replace HP:Jd (PsAt v1 q A c l j d):=hI hp;have Hhij:=hI hij;obtain⟨hu,hsm⟩:=hR;replace hu:u=.agg #[pp,pn,pte,ptl,ptb,po]:=hu;subst hu;have HSM:=hI hsm;replace HF:=hI (HF.o.call hk);clear hp hk hij hsm b0 bf0;have v_:=cb6 (HF.o.at_ 0 rfl);go_wp2_with fail;clear v_;replace HP:=hI (HP.o.keep (zC X0 [pp,pn,pte,ptl,ptb,po] v1 0) (fun g e=>by injection e with e;rw[←e];exact HF.o.far 0 rfl rfl));change bodyPost _ _ _ _ _ (setL v1 X0 0 [pp,pn,pte,ptl,ptb,po]);replace HF:=hI (HF.o.fill 0 rfl [pp,pn,pte,ptl,ptb,po] rfl);generalize setL v1 X0 0 _=v1 at *;have m_:=cb6 (HF.o.at_ 0 rfl);refine bodyPost_ret (v:=.agg #[pp,pn,pte,ptl,ptb,po]) (by simp[results,Tryz.results36,go_sem,m_];try rfl) rfl ?_;clear m_;rw[←HPO.o];exact⟨⟨_,rfl,rfl,HSM.o⟩,HP.o,HF.o.kp,rfl,Hhij.out⟩
theorem zwI (one:Nat→Nat→PR TPa) (bx f:Nat) (stop:ByteArray) (h:PsAt W q A c l i d) (hb:W.heap[bx]? = some (.cells #[.pointer (some ⟨q,0,none⟩)] 52 (0,0)))
  (hone:∀w j,PsAt w q A c l j d→w.heap[bx]? = some (.cells #[.pointer (some ⟨q,0,none⟩)] 52 (0,0))→i≤j→Calls Tryz.prog 36 #[.pointer (some ⟨bx,0,none⟩)] w (zt q A c l RPa j d 1 (one j d) w)) (hf:l.length-i+1≤f) :
  Calls Tryz.prog 35 #[.pointer (some ⟨q,0,none⟩),stop,.func (.func 36) #[] #[.pointer (some ⟨bx,0,none⟩)]] W (zt q A c l (zYk W.heap.size) i d 0 (zb9 l one f stop i d) W):=by
 have hbx:bx≠q:=fun e=>by rw[e,h.blk] at hb;cases hb
 have HBQ:=hI hbx;have HLB:=hI (zh hb);have HB:=hI hb;have HONE:=hI hone;have HFU:=hI hf;have HTK:=hI h.ok.1;have HP:=hI h;have HF:=hI (Frm.start (S:=qS q) W (fun x e=>by have e2:x=q:=e;have:=h.lt;omega));have HQL:=hI h.lt;obtain⟨r,hr⟩:∃r,zb9 l one f stop i d=r:=⟨_,rfl⟩
 rw[hr];have HR:=hI hr;generalize hPO:zt q A c l (zYk W.heap.size) i d 0 r W=PO;have HPO:=hI hPO;clear hr hPO h hb hbx hone hf;go_enter Tryz.func35,Tryz.ntmps35;unfold zb9 at HR;go_wp2_with fail;refine (zE6 stop HP.o).mono ?_;intro e v hpost;cases hb:pIs l stop i
 case true=>exact uXC
 rw[hb] at hpost;rw[hb] at HR;simp only[Bool.false_eq_true,if_false] at HR;obtain⟨rfl,hbb⟩:=hpost;replace HP:=hI (HP.o.below hbb);replace HF:=hI (HF.o.below hbb);clear hbb;have HBB:=hI hb;clear hb;replace HB:=hI (HF.o.kp.blk bx _ HBQ.o HB.o);go_wp2_with fail;go_loopw [7] (fun vs wr=>∃(f':Nat) (acc:List TPa) (j:Nat),z2u zGc wr W.heap.size 65 vs acc∧PsAt wr q A c l j d∧Frm (qS q) W wr [] []∧wr.heap[bx]? = some (.cells #[.pointer (some ⟨q,0,none⟩)] 52 (0,0))∧Jd (zqb l one f' acc j d=r)∧l.length-j+1≤f'∧acc.length+i≤j) (fun _ wr=>l.length-zyK q wr)
 case atStart=>exact⟨f,[],i,z2u.nil_ HF.o.kp.siz,HP.o,HF.o,HB.o,HR,HFU.o,by simp⟩
 case round =>
  obtain⟨f',acc,j,hrow,hp,hfr,hbx,HR,hfu,hac⟩:=hrel;have HRW:=hI hrow;replace HP:=hI hp;have HP0:=HP;replace HF:=hI hfr;replace HB:=hI hbx;have HFU2:=hI hfu;have HAC:=hI hac;have HJ:=hI hp.pos;clear hrow hp hfr hbx hfu hac;obtain⟨f2,hf2⟩:∃f2,f'=f2+1:=⟨f'-1,by have:=HFU2.o;omega⟩
  subst hf2;unfold zqb at HR;obtain⟨AA,ca,hAA⟩:=HRW.o.len;subst hAA;have HC:=hI (HONE.o wr j HP.o HB.o (by have:=HAC.o;omega));go_wp2_with fail;refine (HC.o).mono ?_;intro e v hpost;cases hq:one j d
  case none=>exact uA0
  rename_i x;rw[hq] at hpost;obtain⟨⟨pp,pn,⟨pte,ptl,ptb⟩,po⟩,j2,d2⟩:=x;obtain⟨⟨u,rfl,hR⟩,hp,hk,hdd,hij⟩:=hpost;obtain rfl:d=d2:=hdd.symm;rw[hq] at HR;simp only[zB] at HR;have HIJ:Jd (j+1≤j2):=hI hij;obtain⟨hu,hsm⟩:=hR;replace hu:u=.agg #[pp,pn,pte,ptl,ptb,po]:=hu;subst hu;have hrow2:=HRW.o.step (kpg hk) (fun g e=>by injection e with e;left;have:=HQL.o;omega);have hown:∀g,(Value.slice AA acc.length ca).ownBlock=some g→g<wr.heap.size:=fun g hg=>(HRW.o.own g hg).2;obtain⟨v',v1,hrun,hrow4,hg4⟩:=hrow2.app 58 65 (.agg #[.int .i64 0,.string ⟨#[]⟩,.int .i64 0,.int .i64 0,.int .i64 0,false]) 6 56 rfl Tryz.underlying58 (by kernel_rfl) (by rfl) (by decide) (by decide) (by have:=HAC.o;have:=HJ.o;have:=HTK.o;omega) (es:=[pp,pn,pte,ptl,ptb,po]) (x:=(TPa.mk pp pn ⟨pte,ptl,ptb⟩ po)) (n:=wr.heap.size) (B:=v.heap.size) (show zGc.rep _ _ _ _ from ⟨hsm,rfl⟩) (by intro u hu;simp at hu;rcases hu with rfl | rfl | rfl | rfl | rfl | rfl <;> rfl) HF.o.kp.siz (Nat.le_refl _) (fun g hg=>Or.inl (hown g hg));have hfar:∀g,(Value.slice AA acc.length ca).ownBlock=some g→W.heap.size≤g:=fun g hg=>(HRW.o.own g hg).1;have hb2:=bnew v (.cells ([pp,pn,pte,ptl,ptb,po]:List Value).toArray 65);have HF4:=hI ((HF.o.call hk).grow0 hb2 hg4 hfar);have HP4:=hI ((hp.below hb2).keep hg4 (fun g e=>by have:=hfar g e;have:=HQL.o;omega));have HB4:=hI ((hg4.block bx (zh (((Kp.of_below (S:=qS q) hb2).blk bx _ HBQ.o (hk.blk bx _ HBQ.o HB.o)))) (fun e=>by have:=hfar bx e.symm;have:=HLB.o;omega)).trans ((Kp.of_below (S:=qS q) hb2).blk bx _ HBQ.o (hk.blk bx _ HBQ.o HB.o)));have HRW4:=hI hrow4;have HRUN:=hI hrun;clear hq hp hk hij hrow2 hown hrun hrow4 hg4 hfar hb2;simp only;replace HP:Jd (PsAt v1 q A c l j2 d):=hI HP4.o;replace HF:=hI HF4.o;replace HB:=hI HB4.o;clear HP4 HF4 HB4;go_upto_region 5 with (at_builtin;refine zEF rfl (.tmp 12) (.tmp 15) 58 rfl HRUN.o rfl rfl ?_);go_wp2_with fail;refine (z77 ⟨#[44]⟩ HP.o).mono ?_;intro e v hpost;cases hb:pIs l ⟨#[44]⟩ j2
  case false=>rw[hb] at hpost;rw[hb] at HR;simp only[Bool.false_eq_true,if_false] at HR;obtain⟨rfl,hp,hk⟩:=hpost;have HRW5:=hI (HRW4.o.step (kpg hk) (fun g e=>by injection e with e;left;have:=HQL.o;omega));have HB5:=hI (hk.blk bx _ HBQ.o HB.o);replace HP:Jd (PsAt v q A c l j2 d):=hI hp;replace HF:=hI (HF.o.call hk);clear hp hk hb;go_wp2_with fail;rw[←HPO.o,←HR.o];exact⟨⟨_,rfl,by rw[List.length_append,List.length_singleton];have:=HAC.o;have:=HIJ.o;have:=HP.o.pos;have:=HTK.o;omega,HRW5.o.done z92⟩,HP.o,HF.o.kp,rfl,by have:=HAC.o;have:=HIJ.o;try simp only;omega⟩
  rw[hb] at hpost;rw[hb] at HR;simp only[if_true] at HR;obtain⟨rfl,hp,hk⟩:=hpost;have HRW5:=hI (HRW4.o.step (kpg hk) (fun g e=>by injection e with e;left;have:=HQL.o;omega));have HB5:=hI (hk.blk bx _ HBQ.o HB.o);replace HP:Jd (PsAt v q A c l (j2+1) d):=hI hp;replace HF:=hI (HF.o.call hk);clear hp hk hb;go_wp2_with fail;go_roundw
  case rel=>exact⟨f2,acc++[(TPa.mk pp pn ⟨pte,ptl,ptb⟩ po)],j2+1,HRW5.o,HP.o,HF.o,HB5.o,HR,by have:=HFU2.o;have:=HIJ.o;have:=HJ.o;omega,by rw[List.length_append,List.length_singleton];have:=HAC.o;have:=HIJ.o;omega⟩
  case measure=>rw[HP.o.posN,HP0.o.posN];have:=HIJ.o;have:=HJ.o;omega
theorem zJC (n:Nat) (h:PsAt W q A c l i d) (hf:16*(l.length-i)+12≤n) :
  Calls Tryz.prog 13 #[.pointer (some ⟨q,0,none⟩)] W (zt q A c l (RFuE W.heap.size) i d 1 (zcN l n i d) W):=by
 have HFU:=hI hf;have HP:=hI ((h.below (bnew W (.cells #[.pointer (some ⟨q,0,none⟩)] 52))).below (bnew (W.alloc (.cells #[.pointer (some ⟨q,0,none⟩)] 52)) (.cells #[.int .i64 0,.string ⟨#[]⟩,.slice none 0 0,false,.int .i64 0,.int .i64 0,.int .i64 0,.slice none 0 0] 61)));have HF:=hI (((Frm.start (S:=qS q) W (fun x e=>by have e2:x=q:=e;have:=h.lt;omega)).alloc 52 [.pointer (some ⟨q,0,none⟩)]).allocN (W.heap.size+1) (by simp) 61 [.int .i64 0,.string ⟨#[]⟩,.slice none 0 0,false,.int .i64 0,.int .i64 0,.int .i64 0,.slice none 0 0]);have HLN:=hI h.ok.1;obtain⟨r,hr⟩:∃r,zcN l n i d=r:=⟨_,rfl⟩
 rw[hr];have HR:=hI hr;generalize hPO:zt q A c l (RFuE W.heap.size) i d 1 r W=PO;have HPO:=hI hPO;clear hr hPO h hf;go_enter Tryz.func13,Tryz.ntmps13;go_upto_region 1 with (fail);generalize ((W.alloc _).alloc _)=v1 at *;generalize W.heap.size+1=X1 at HF ⊢;generalize W.heap.size=X0 at HF ⊢;unfold zcN at HR;obtain⟨b0,bf0⟩:=zz (HF.o.at_ 1 rfl) 0;go_wp2_with fail;refine (zn8 ⟨#[102,110]⟩ HP.o).mono ?_;intro e v1 hpost;cases hq:zi0 l ⟨#[102,110]⟩ i d
 case none=>exact uO8
 rename_i x;obtain⟨t,j,d2⟩:=x
 obtain⟨⟨u,rfl,hR⟩,HP,hk,rfl,Hhij,HR⟩:=ppS hpost hq HR;replace HF:=hI (HF.o.call hk);clear hq hk b0 bf0;obtain⟨b0,bf0⟩:=zz (HF.o.at_ 1 rfl) 0;go_wp2_with fail;refine (znY 1 (by decide) HP.o).mono ?_;intro e v1 hpost;cases hq:zHr l 1 j d
 case none=>exact uO8
 rename_i x;obtain⟨⟨tk1,tp1,tn1,tt1⟩,j2,d2⟩:=x
 obtain⟨⟨u,rfl,hR⟩,HP,hk,rfl,Hhij2,HR⟩:=ppS hpost hq HR;have hu:u=.agg #[tk1,tp1,tn1,tt1]:=hR.1;subst hu;have HTB1:=hI hR.2;simp only at HTB1;clear hR;replace HF:=hI (HF.o.call hk);clear hq hk b0 bf0;go_upto_region 3 with (fail);replace HF:=hI (HF.o.alloc 56 [tk1,tp1,tn1,tt1]);replace HP:=hI (HP.o.below (bw HF));generalize v1.alloc _=v2 at *;generalize v1.heap.size=T at HF ⊢;obtain⟨⟨t0,tf0⟩,⟨t1,tf1⟩,⟨t2,tf2⟩,t3,tf3⟩:=cb4 (HF.o.at_ 0 rfl);go_upto_region 4 with (fail);clear t0 tf0 t1 tf1 t2 tf2 t3 tf3;replace HF:=hI (HF.o.alloc 61 [tp1,tt1,.slice none 0 0,false,.int .i64 0,.int .i64 0,.int .i64 0,.slice none 0 0]);replace HP:=hI (HP.o.below (bw HF));generalize v2.alloc _=v1 at *;generalize v2.heap.size=Y at HF ⊢;obtain⟨b0,bf0⟩:=zz (HF.o.at_ 3 rfl) 0;go_wp2_with fail;refine (zn8 ⟨#[40]⟩ HP.o).mono ?_;intro e v1 hpost;cases hq:zi0 l ⟨#[40]⟩ j2 d
 case none=>exact uO8
 rename_i x;obtain⟨t2,j3,d2⟩:=x
 obtain⟨⟨u,rfl,hR⟩,HP,hk,rfl,Hhij3,HR⟩:=ppS hpost hq HR;replace HF:=hI (HF.o.call hk);clear hq hk b0 bf0;obtain⟨b0,bf0⟩:=zz (HF.o.at_ 3 rfl) 0;go_wp2_with fail;refine (zwI (fun i d=>z43 l i d) X0 n ⟨#[41]⟩ HP.o (HF.o.at_ 3 rfl) (fun w k hp hb hk=>zxd X0 hp hb) (by have:=HFU.o;have:=HP.o.pos;have:=Hhij.out;have:=Hhij2.out;have:=Hhij3.out;omega)).mono ?_;intro e v1 hpost;cases hq:zb9 l (fun i d=>z43 l i d) n ⟨#[41]⟩ j3 d
 case none=>exact uO8
 rename_i x;obtain⟨ps,j4,d2⟩:=x
 obtain⟨⟨u,rfl,hR⟩,HP,hk,rfl,Hhij4,HR⟩:=ppS hpost hq HR;obtain⟨hlen,hT⟩:=hR;obtain⟨pA,pc,hv,_⟩:=hT.shape;subst hv;have HSM:=hI hlen;clear hlen;replace HF:=hI (HF.o.callT hk (slT z92 (.slice pA ps.length pc) ps) hT);clear hq hk b0 bf0;obtain⟨y2,yf2⟩:=zz (HF.o.at_ 0 rfl) 2;go_upto_region 6 with (fail);clear y2 yf2;replace HP:=hI (HP.o.setX (HF.o.far 0 rfl rfl) 2 (.slice pA ps.length pc));replace HF:=hI (HF.o.set 0 rfl 2 (.slice pA ps.length pc));generalize v1.setCell _ _=v1 at *;obtain⟨b0,bf0⟩:=zz (HF.o.at_ 3 rfl) 0;go_wp2_with fail;refine (zn8 ⟨#[41]⟩ HP.o).mono ?_;intro e v1 hpost;cases hq:zi0 l ⟨#[41]⟩ j4 d
 case none=>exact uO8
 rename_i x;obtain⟨t3,j5,d2⟩:=x
 obtain⟨⟨u,rfl,hR⟩,HP,hk,rfl,Hhij5,HR⟩:=ppS hpost hq HR;replace HF:=hI (HF.o.call hk);clear hq hk b0 bf0;obtain⟨b0,bf0⟩:=zz (HF.o.at_ 3 rfl) 0;go_wp2_with fail;refine (z77 ⟨#[58]⟩ HP.o).mono ?_;intro e v1 hpost;cases hb:pIs l ⟨#[58]⟩ j5
 case false =>
  rw[hb] at hpost;obtain⟨rfl,hp,hk⟩:=hpost;replace HP:Jd (PsAt v1 q A c l j5 d):=hI hp;replace HF:=hI (HF.o.call hk);clear hp hk;have Ha:=hI hb;clear hb b0 bf0;simp only[Ha.out,Bool.false_eq_true,if_false] at HR;obtain⟨b0,bf0⟩:=zz (HF.o.at_ 3 rfl) 0;go_wp2_with fail;refine ((zVF n).block HP.o (by have:=HFU.o;have:=HP.o.pos;have:=Hhij.out;have:=Hhij2.out;have:=Hhij3.out;have:=Hhij4.out;have:=Hhij5.out;omega)).mono ?_;intro e v2 hpost;cases hq:z3h l n j5 d
  case none=>exact uO8
  rename_i x;obtain⟨bb,jb,d2⟩:=x
  obtain⟨⟨u,rfl,hR⟩,HP,hk,rfl,Hhijb,HR⟩:=ppS hpost hq HR;obtain⟨hlen,hT⟩:=hR;obtain⟨bA,bc,hv,_⟩:=hT.shape;subst hv;have HLB:=hI hlen;clear hlen;replace HF:=hI (HF.o.callT hk (slT zuD (.slice bA bb.length bc) bb) hT);clear hq hk b0 bf0;obtain⟨y7,yf7⟩:=zz (HF.o.at_ 0 rfl) 7;go_upto_region 11 with (fail);clear y7 yf7;replace HP:=hI (HP.o.setX (HF.o.far 0 rfl rfl) 7 (.slice bA bb.length bc));replace HF:=hI (HF.o.set 0 rfl 7 (.slice bA bb.length bc));generalize v2.setCell _ _=v3 at *;have y_:=cb8 (HF.o.at_ 0 rfl);have z_:=cb8 (HF.o.at_ 2 rfl);go_wp2_with fail;clear y_ z_;replace HP:=hI (HP.o.keep (zC X1 [tp1,tt1,.slice pA ps.length pc,false,.int .i64 0,.int .i64 0,.int .i64 0,.slice bA bb.length bc] v3 0) (fun g e=>by injection e with e;rw[←e];exact HF.o.far 2 rfl rfl));change bodyPost _ _ _ _ _ (setL v3 X1 0 [tp1,tt1,.slice pA ps.length pc,false,.int .i64 0,.int .i64 0,.int .i64 0,.slice bA bb.length bc]);replace HF:=hI (HF.o.fill 2 rfl [tp1,tt1,.slice pA ps.length pc,false,.int .i64 0,.int .i64 0,.int .i64 0,.slice bA bb.length bc] rfl);generalize setL v3 X1 0 _=v4 at *;have m_:=cb8 (HF.o.at_ 2 rfl);refine bodyPost_ret (v:=.agg #[tp1,tt1,.slice pA ps.length pc,false,.int .i64 0,.int .i64 0,.int .i64 0,.slice bA bb.length bc]) (by simp[results,Tryz.results13,go_sem,m_];try rfl) rfl ?_;clear m_;rw[←HPO.o,←HR.o];exact⟨⟨_,rfl,⟨HTB1.o.1,HSM.o,HLB.o⟩,_,_,rfl,HF.o.tree 1 rfl,HF.o.tree 0 rfl⟩,HP.o,HF.o.kp,rfl,by have:=Hhij.out;have:=Hhij2.out;have:=Hhij3.out;have:=Hhij4.out;have:=Hhij5.out;have:=Hhijb.out;try simp only;omega⟩
 rw[hb] at hpost;obtain⟨rfl,hp,hk⟩:=hpost;replace HP:Jd (PsAt v1 q A c l (j5+1) d):=hI hp;replace HF:=hI (HF.o.call hk);clear hp hk;have Ha:=hI hb;clear hb b0 bf0;simp only[Ha.out,if_true] at HR;obtain⟨y3,yf3⟩:=zz (HF.o.at_ 0 rfl) 3;go_upto_region 9 with (fail);clear y3 yf3;replace HP:=hI (HP.o.setX (HF.o.far 0 rfl rfl) 3 (.bool true));replace HF:=hI (HF.o.set 0 rfl 3 (.bool true));generalize v1.setCell _ _=v2 at *;refine wL (fun w'=>w'.heap[X0]? = some (.cells #[.pointer (some ⟨q,0,none⟩)] 52 (0,0))) 5 ?_;replace HP:=hI (HP.o.below (bdr (Below.refl _ _)));replace HF:=hI HF.o.drew;generalize v2.drew=v3 at *;refine tk 0 25 (.pointer (some ⟨q,0,none⟩)) ?_ (HF.o.at_ 3 rfl) ?_
 · exact uS2
 refine tk 1 26 (.pointer (some ⟨q,0,none⟩)) ?_ (HF.o.at_ 3 rfl) ?_
 · exact uS2
 try simp only[Act.put,pA,pB,pC]
 refine wone 2 fun K hK=>?_;go_simp;refine (zDb HP.o).mono ?_;intro e v4 hpost;cases hq:zNj l (j5+1) d
 case none=>exact uUc
 rename_i x;obtain⟨lab,j6,d2⟩:=x
 obtain⟨⟨u,rfl,hR⟩,HP,hk,rfl,Hhij6,HR⟩:=ppS hpost hq HR;have hu:u=.int .i64 lab:=hR;subst hu;clear hR;replace HF:=hI (HF.o.call hk);clear hq hk;refine hK.o _ _ (fun _=>(HF.o.at_ 3 rfl)) ?_;clear hK;try simp only[Act.put,pA,pB,pC]
 refine wone 3 fun K hK=>?_;go_simp;refine (zbr lab HP.o).mono ?_;intro e v1 hpost;cases hq:zXf l lab j6 d
 case none=>exact uUc
 rename_i x;obtain⟨⟨te,tl,tb⟩,j7,d2⟩:=x
 obtain⟨⟨u,rfl,hR⟩,HP,hk,rfl,Hhij7,HR⟩:=ppS hpost hq HR;have hu:u=.agg #[te,tl,tb]:=hR;subst hu;clear hR;replace HF:=hI (HF.o.call hk);clear hq hk;refine hK.o _ _ (fun _=>(HF.o.at_ 3 rfl)) ?_;clear hK;refine tg 4 29 (.pointer (some ⟨Y,4,none⟩)) (HF.o.at_ 3 rfl) ?_;try simp only[Act.put,pA,pB,pC]
 obtain⟨y4,yf4⟩:=zz (HF.o.at_ 0 rfl) 4;obtain⟨y5,yf5⟩:=zz (HF.o.at_ 0 rfl) 5;obtain⟨y6,yf6⟩:=zz (HF.o.at_ 0 rfl) 6;refine wone 5 fun K hK=>?_;go_simp;replace HP:=hI (HP.o.setX (HF.o.far 0 rfl rfl) 4 (.int .i64 te));replace HF:=hI (HF.o.set 0 rfl 4 (.int .i64 te));generalize v1.setCell _ _=v1 at *;replace HP:=hI (HP.o.setX (HF.o.far 0 rfl rfl) 5 (.int .i64 tl));replace HF:=hI (HF.o.set 0 rfl 5 (.int .i64 tl));generalize v1.setCell _ _=v1 at *;replace HP:=hI (HP.o.setX (HF.o.far 0 rfl rfl) 6 (.int .i64 tb));replace HF:=hI (HF.o.set 0 rfl 6 (.int .i64 tb));generalize v1.setCell _ _=v1 at *;clear y4 yf4 y5 yf5 y6 yf6;refine hK.o _ _ (fun h=>absurd rfl h) ?_;clear hK;try simp only[Act.put,pA,pB,pC]
 refine wD ?_ _;obtain⟨b0,bf0⟩:=zz (HF.o.at_ 3 rfl) 0;go_wp2_with fail;refine ((zVF n).block HP.o (by have:=HFU.o;have:=HP.o.pos;have:=Hhij.out;have:=Hhij2.out;have:=Hhij3.out;have:=Hhij4.out;have:=Hhij5.out;have:=Hhij6.out;have:=Hhij7.out;omega)).mono ?_;intro e v1 hpost;cases hq:z3h l n j7 d
 case none=>exact uO8
 rename_i x;obtain⟨bb,jb,d2⟩:=x
 obtain⟨⟨u,rfl,hR⟩,HP,hk,rfl,Hhijb,HR⟩:=ppS hpost hq HR;obtain⟨hlen,hT⟩:=hR;obtain⟨bA,bc,hv,_⟩:=hT.shape;subst hv;have HLB:=hI hlen;clear hlen;replace HF:=hI (HF.o.callT hk (slT zuD (.slice bA bb.length bc) bb) hT);clear hq hk b0 bf0;obtain⟨y7,yf7⟩:=zz (HF.o.at_ 0 rfl) 7;go_upto_region 11 with (fail);clear y7 yf7;replace HP:=hI (HP.o.setX (HF.o.far 0 rfl rfl) 7 (.slice bA bb.length bc));replace HF:=hI (HF.o.set 0 rfl 7 (.slice bA bb.length bc));generalize v1.setCell _ _=v1 at *;have y_:=cb8 (HF.o.at_ 0 rfl);have z_:=cb8 (HF.o.at_ 2 rfl);go_wp2_with fail;clear y_ z_;replace HP:=hI (HP.o.keep (zC X1 [tp1,tt1,.slice pA ps.length pc,true,te,tl,tb,.slice bA bb.length bc] v1 0) (fun g e=>by injection e with e;rw[←e];exact HF.o.far 2 rfl rfl));change bodyPost _ _ _ _ _ (setL v1 X1 0 [tp1,tt1,.slice pA ps.length pc,true,te,tl,tb,.slice bA bb.length bc]);replace HF:=hI (HF.o.fill 2 rfl [tp1,tt1,.slice pA ps.length pc,true,te,tl,tb,.slice bA bb.length bc] rfl);generalize setL v1 X1 0 _=v1 at *;have m_:=cb8 (HF.o.at_ 2 rfl);refine bodyPost_ret (v:=.agg #[tp1,tt1,.slice pA ps.length pc,true,te,tl,tb,.slice bA bb.length bc]) (by simp[results,Tryz.results13,go_sem,m_];try rfl) rfl ?_;clear m_;rw[←HPO.o,←HR.o];exact⟨⟨_,rfl,⟨HTB1.o.1,HSM.o,HLB.o⟩,_,_,rfl,HF.o.tree 1 rfl,HF.o.tree 0 rfl⟩,HP.o,HF.o.kp,rfl,by have:=Hhij.out;have:=Hhij2.out;have:=Hhij3.out;have:=Hhij4.out;have:=Hhij5.out;have:=Hhij6.out;have:=Hhij7.out;have:=Hhijb.out;try simp only;omega⟩
end
section
variable {B:Nat} {T:Type} {m:Nat} {v:Value} {w:World}
theorem zJ8 (f:T→Nat):∀(l:List T) (k:Nat) (t:T),l[k]? = some t→f t≤szL f l
 | [],k,t,h=>by simp at h
 | x::l,0,t,h=>by simp only[List.getElem?_cons_zero,Option.some.injEq] at h;rw[h];simp only[szL];omega
 | x::l,k+1,t,h=>by
  rw[List.getElem?_cons_succ] at h
  have:=zJ8 f l k t h
  simp only[szL];omega
theorem zj.turn {E E':Enc T} {l:List T} (hs:E'.size=E.size) (h:zj E w B v l) (hk:∀(es:List Value) (t:T),t∈l→E.rep w B es t→E'.rep w B es t):zj E' w B v l:=by
 obtain⟨A,c,e,hc,h⟩:=h;refine⟨A,c,e,hc,fun k t ht=>?_⟩;obtain⟨b,off,es,e1,h1,h2,h3⟩:=h k t ht;exact⟨b,off,es,e1,h1,hk es t (List.mem_of_getElem? ht) h2,by rw[hs];exact h3⟩
theorem z57 (f:T→Nat) (l:List T) (t:T) (h:t∈l):f t≤szL f l:=by
 obtain⟨k,hk⟩:=List.mem_iff_getElem?.1 h;exact zJ8 f l k t hk
theorem exDn:∀(n m:Nat) (es:List Value) (x:TEx),(zO n).rep w B es x→szX x≤m→(zO m).rep w B es x
 | 0,m,es,x,h,_=>h.elim
 | n+1,0,es,x,h,hm=>by cases x;rw[zMc] at hm;omega
 | n+1,m+1,es,x,h,hm=>by
  obtain⟨h0,v,e,h1⟩:=h
  have hx:szX x=szL szX x.args+1:=by cases x;rw[zMc];rfl
  exact⟨h0,v,e,h1.turn (by rw[zWx,zWx]) fun es t ht hr=>exDn n m es t hr (by have:=z57 szX _ _ ht;omega)⟩
theorem stDn:∀(n m:Nat) (es:List Value) (x:TSt),(zM n).rep w B es x→szS x≤m→(zM m).rep w B es x
 | 0,m,es,x,h,_=>h.elim
 | n+1,0,es,x,h,hm=>by cases x;rw[zTR] at hm;omega
 | n+1,m+1,es,x,h,hm=>by
  obtain⟨h0,va,vb,ve,e,h1,h2,h3⟩:=h
  have hx:szS x=szL szX x.args+szL szS x.body+szL szS x.els+1:=by cases x;rw[zTR];rfl
  exact⟨h0,va,vb,ve,e,h1.turn (by rw[zWx,zWx]) fun es t ht hr=>exDn n m es t hr (by have:=z57 szX _ _ ht;omega),
   h2.turn (by rw[zYp,zYp]) fun es t ht hr=>stDn n m es t hr (by have:=z57 szS _ _ ht;omega),
   h3.turn (by rw[zYp,zYp]) fun es t ht hr=>stDn n m es t hr (by have:=z57 szS _ _ ht;omega)⟩
theorem fuDn {n:Nat} {es:List Value} {x:TFu} (h:(zHM n).rep w B es x) (hm:szF x≤m):(zHM m).rep w B es x:=by
 obtain⟨h0,vp,vb,e,h1,h2⟩:=h;exact⟨h0,vp,vb,e,h1,h2.turn (by rw[zYp,zYp]) fun es t ht hr=>stDn n m es t hr (by have:=z57 szS _ _ ht;unfold szF at hm;rw[znV] at hm;omega)⟩
theorem znO {p:List TFu} (h:zj fuE w B v p) (hm:szL szF p≤m):zj (zHM m) w B v p:=zj.turn (E:=fuE) (E':=zHM m) rfl h fun es t ht ⟨n,hr⟩=>fuDn hr (by have:=z57 szF _ _ ht;omega)
end
end Go.Proofs.YtfibdoehmndinaaGreatDoor
