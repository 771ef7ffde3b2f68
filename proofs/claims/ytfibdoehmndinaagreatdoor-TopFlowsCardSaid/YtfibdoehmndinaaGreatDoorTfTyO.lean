/- Parts of a proof. No condition but those that each theorem names. -/
import Derived.Test.YtfibdoehmndinaaGreatDoorTfG1e15
namespace Go.Proofs.YtfibdoehmndinaaGreatDoor
open Go.RowKit
set_option linter.unusedVariables false
set_option maxRecDepth 100000
set_option maxHeartbeats 1000000
section
variable {G:TGam} {K:TKs} {M:World} {N:Nat} {S:Nat→Prop} {fb q:Nat} {w w':World} {x:ByteArray}
section
variable {p:Prop}
theorem uVP (h:p:=by
 refine⟨zQ rfl ?_,zQ rfl ?_,trivial⟩;all_goals (simp only[Act.put,pA,pB,pC,Option.getD] <;> go_simp)):p:=h
theorem uQV (h:p:=by
 have HRT:=hI (brT HR.o hq);have HFT:=hI (HF.o.callM HK.o hk HNW.o).kp;have HE:=hI hE;clear hk hq hE;go_wp2_with fail;exact⟨rfl,zn.trap_ HPO.o HRT.o HE.o HFT.o⟩):p:=h
end
def qfS (q fb:Nat):Nat→Prop:=fun x=>x=q∨x=fb
theorem zgV {x:Nat} (h:w.grownBy w' (some x)) (hS:S x):Kp S w w':=⟨h.os,h.tape,h.output,h.size,fun p y hp hy=>(h.block p (zh hy) (fun e=>hp (by injection e with e;rw[e];exact hS))).trans hy⟩
structure CkF (M w:World) (q fb N:Nat) (K:TKs):Prop where
 blk:∃vn p0 p1 p2 p3 p4 p5 p6 p7:Value,w.heap[q]? = some (.cells #[.map (some fb),vn,p0,p1,p2,p3,p4,p5,p6,p7] 146 (0,0))
 fn:∃fm,MapV w fb N fm∧∀x,match K x with
  | none=>fm x=none
  | some k=>∃A c A' c',fm x=some (zwp k A c A' c')∧zj zGc M M.heap.size (.slice A k.f.params.length c) k.f.params∧fuSm k.f∧0≤k.cost∧k.cost≤65537
 old:Below M.heap.size M w
 le:M.heap.size≤q∧M.heap.size≤fb∧q≠fb
def RF (M:World) (q fb N:Nat) (w':World) (_:Value) (K:TKs):Prop:=CkF M w' q fb N K
section
variable {M w w':World} {q fb nb N:Nat} {L:List ByteArray} {K:TKs} {G:TGam} {g:TFu}
theorem CkF.lt (h:CkF M w q fb N K):q<w.heap.size∧fb<w.heap.size:=by
 obtain⟨_,_,_,_,_,_,_,_,_,h1⟩:=h.blk;obtain⟨fm,h2,_⟩:=h.fn;exact⟨zh h1,h2.lt⟩
theorem CkF.below (h:CkF M w q fb N K) (hb:Below w.heap.size w w'):CkF M w' q fb N K:=by
 obtain⟨⟨vn,p0,p1,p2,p3,p4,p5,p6,p7,h1⟩,⟨fm,h2,h3⟩,h6,h7⟩:=h;exact⟨⟨vn,p0,p1,p2,p3,p4,p5,p6,p7,(hb.block q (zh h1)).trans h1⟩,⟨fm,h2.below hb,h3⟩,bch h6 hb,h7⟩
theorem CkF.own (h:CkF M w q fb N K) {n X:Nat} (hl:q<n∧fb<n) (hX:n≤X) (hg:w.grownBy w' (some X)):CkF M w' q fb N K:=by
 obtain⟨⟨vn,p0,p1,p2,p3,p4,p5,p6,p7,h1⟩,⟨fm,h2,h3⟩,h6,h7⟩:=h;exact⟨⟨vn,p0,p1,p2,p3,p4,p5,p6,p7,(hg.block q (zh h1) (fun e=>by injection e with e;omega)).trans h1⟩,⟨fm,h2.keep hg (fun e=>by injection e with e;omega),h3⟩,h6.grown hg h6.size (fun r e=>by injection e with e;omega),h7⟩
theorem CkF.cell0 (h:CkF M w q fb N K):w.cell? ⟨q,0,none⟩=some (.map (some fb)):=by
 obtain⟨_,_,_,_,_,_,_,_,_,h1⟩:=h.blk;exact (zz h1 0).1
theorem CkF.fnNo (h:CkF M w q fb N K) (hx:x.size≤65536) (e:K x=none):(Instr.lookup 143 (.map (some fb)) (.string x) true).run Tryz.prog w=.ok (.tuple #[.agg #[.int .i64 0,.string ⟨#[]⟩,.slice none 0 0,false,.int .i64 0,.int .i64 0,.int .i64 0,.slice none 0 0,.int .i64 0],false]) w:=by
 exact uGK
theorem CkF.fnYes (h:CkF M w q fb N K) (hx:x.size≤65536) {k:TKn} (e:K x=some k):∃A c A' c',(∀w1,Below w.heap.size w w1→(Instr.lookup 143 (.map (some fb)) (.string x) true).run Tryz.prog w1=.ok (.tuple #[zwp k A c A' c',true]) w1)∧(∀w1,Below w.heap.size w w1→(Instr.lookup 143 (.map (some fb)) (.string x) false).run Tryz.prog w1=.ok (zwp k A c A' c') w1):=by
 obtain⟨fm,h1,h2⟩:=h.fn;have h3:=h2 x;rw[e] at h3;obtain⟨A,c,A',c',h3,h4⟩:=h3;refine⟨A,c,A',c',fun w1 hb=>?_,fun w1 hb=>?_⟩
 · rw[(h1.below hb).look Tryz.underlying143 (z7v w1) x (by unfold maxLen;omega),h3];rfl
 rw[(h1.below hb).look1 Tryz.underlying143 (z7v w1) x (by unfold maxLen;omega),h3];rfl
theorem CkF.enter (h:CkF M w q fb N K) (L:List ByteArray) (f:TFu) (va vb:Value) :
  (∃p0 p1 p2 p3 p4 p5 p6 p7:Value,((w.alloc (.map #[] 0)).setCell ⟨q,1,none⟩ (.map (some w.heap.size))).heap[q]? = some (.cells #[.map (some fb),.map (some w.heap.size),p0,p1,p2,p3,p4,p5,p6,p7] 146 (0,0))) ∧
  CkAt M (setL ((w.alloc (.map #[] 0)).setCell ⟨q,1,none⟩ (.map (some w.heap.size))) q 2 [f.pos,f.name,va,f.has,f.res.elem,f.res.len,f.res.label,vb]) q fb w.heap.size N L K zN f ∧
  (∀S:Nat→Prop,S q→Kp S w (setL ((w.alloc (.map #[] 0)).setCell ⟨q,1,none⟩ (.map (some w.heap.size))) q 2 [f.pos,f.name,va,f.has,f.res.elem,f.res.len,f.res.label,vb])):=by
 have hlt:=h.lt;obtain⟨⟨vn,p0,p1,p2,p3,p4,p5,p6,p7,h1⟩,⟨fm,h2,h3⟩,h6,h7⟩:=h;have hb:=bnew w (.map #[] 0);have hq1:=(hb.block q hlt.1).trans h1;have hq2:((w.alloc (.map #[] 0)).setCell ⟨q,1,none⟩ (.map (some w.heap.size))).heap[q]? = some (.cells #[.map (some fb),.map (some w.heap.size),p0,p1,p2,p3,p4,p5,p6,p7] 146 (0,0)):=by simpa using zPw hq1 1 (.map (some w.heap.size))
 have hg2:=zjV (w.alloc (.map #[] 0)) ⟨q,1,none⟩ (.map (some w.heap.size));have hg3:=zC q [f.pos,f.name,va,f.has,f.res.elem,f.res.len,f.res.label,vb] ((w.alloc (.map #[] 0)).setCell ⟨q,1,none⟩ (.map (some w.heap.size))) 2;have hq3:=zwM q [f.pos,f.name,va,f.has,f.res.elem,f.res.len,f.res.label,vb] _ 2 [.map (some fb),.map (some w.heap.size),p0,p1,p2,p3,p4,p5,p6,p7] hq2 (by simp);simp only[List.take_succ_cons,List.take_zero,List.cons_append,List.nil_append,List.length_cons,List.length_nil,Nat.zero_add,Nat.reduceAdd,List.drop_succ_cons,List.drop_nil,List.append_nil] at hq3;have hg:(w.alloc (.map #[] 0)).grownBy _ (some q):=gtr hg2 hg3;have hnq:some fb≠some q:=fun e=>h7.2.2 (Option.some.inj e).symm;have hnw:some w.heap.size≠some q:=fun e=>by have:=Option.some.inj e;omega
 have hm:=z3s w;have hbb:=(bch h6 hb).grown hg (bch h6 hb).size (fun r e=>by have:=Option.some.inj e;omega);have hfn:=(h2.below hb).keep hg hnq;have hnm:=(hm.mono (Nat.zero_le L.length)).keep hg hnw;have hkp:∀S:Nat→Prop,S q→Kp S w (setL ((w.alloc (.map #[] 0)).setCell ⟨q,1,none⟩ (.map (some w.heap.size))) q 2 [f.pos,f.name,va,f.has,f.res.elem,f.res.len,f.res.label,vb]):=fun S hS=>(Kp.of_below hb).trans (zgV hg hS) (fun _ _ h=>h);have hle:M.heap.size≤q∧M.heap.size≤fb∧M.heap.size≤w.heap.size∧q≠fb∧q≠w.heap.size∧fb≠w.heap.size:=⟨h7.1,h7.2.1,h6.size,h7.2.2,by omega,by omega⟩
 refine⟨⟨p0,p1,p2,p3,p4,p5,p6,p7,hq2⟩,?_,hkp⟩;clear hkp hq2 hg hg2 hg3 hm;generalize setL ((w.alloc _).setCell ⟨q,1,none⟩ (.map (some w.heap.size))) q 2 [f.pos,f.name,va,f.has,f.res.elem,f.res.len,f.res.label,vb]=w3 at *;exact⟨⟨va,vb,hq3⟩,⟨fm,hfn,h3⟩,⟨fun _=>none,hnm,fun _=>rfl,fun x hx=>absurd rfl hx⟩,hbb,hle⟩
theorem CkAt.putF (h:CkAt M w q fb nb N L K G g) (hN:N≤1048576) (hx:x.size≤65536) (k:TKn) (A:Option Addr) (c:Nat) (A':Option Addr) (c':Nat) (hp:zj zGc M M.heap.size (.slice A k.f.params.length c) k.f.params) (hs:fuSm k.f) (hc:0≤k.cost∧k.cost≤65537) :
  ∃w',(Instr.mapUpdate 143 (.map (some fb)) (.string x) (zwp k A c A' c')).run Tryz.prog w=.ok () w'∧CkF M w' q fb (N+1) (zSy K x k)∧w.grownBy w' (some fb):=by
 obtain⟨fm,h1,h2⟩:=h.fn;obtain⟨w',r1,r2,r3⟩:=h1.store (T := 143) (E := 150) Tryz.underlying143 (by unfold maxLen;omega) x (zwp k A c A' c') (by unfold maxLen;omega);obtain⟨vp,vb,hb⟩:=h.blk;have hle:=h.le;refine⟨w',r1,⟨⟨_,_,_,_,_,_,_,_,_,(r3.block q (zh hb) (fun e=>hle.2.2.2.1 (by injection e))).trans hb⟩,⟨_,r2,fun y=>?_⟩,h.old.grown r3 h.old.size (fun r e=>by injection e with e;omega),hle.1,hle.2.1,hle.2.2.2.1⟩,r3⟩;unfold zSy;by_cases e:y=x
 · rw[if_pos e,if_pos e];exact⟨A,c,A',c',rfl,hp,hs,hc⟩
 rw[if_neg e,if_neg e];exact h2 y
end
theorem Frm.callM {W:World} {bs:List (Nat×TypeId×List Value)} {nb:Nat} {L:List ByteArray} {g:TFu} (h:Frm S W w bs []) (hk:CkAt M w q fb nb N L K G g) (k:Kp (nbS nb) w w') (hn:W.heap.size≤nb):Frm S W w' bs []:=by
 obtain⟨gm,⟨D,⟨es,clock,hm,_⟩,_⟩,_⟩:=hk.nm;refine⟨h.kp.trans k (fun x hx hs=>by have e:x=nb:=hs;omega),h.old,h.sub,fun b hb=>k.blk _ _ (fun hs=>?_) (h.blk b hb),h.dis,fun T hT=>by cases hT⟩;have e:b.1=nb:=hs;have h1:=h.blk b hb;rw[e,hm] at h1;cases h1
theorem zt3 (ps:List TPa) (i:Nat) (h:i<ps.length):zUz G (ps.drop i)=(zHj G (ps.getD i z12).name ⟨(ps.getD i z12).ty,!(ps.getD i z12).out⟩).bind fun G=>tIf (!(ps.getD i z12).out || decide (0<(ps.getD i z12).ty.len)) (tIf (decide ((ps.getD i z12).ty.len≤16384)) (zUz G (ps.drop (i+1)))):=by
 rw[zD ps i z12 h];rfl
theorem zEV {f:TGam→Bool→TSt→TR TGam} {r:Bool} (l:List TSt) (i:Nat) (h:i<l.length):zxZ f r G (l.drop i)=(f G ((i:Int)==(l.length:Int)-1) (l.getD i zJ)).bind fun G=>zxZ f (decide ((l.getD i zJ).kind=8)) G (l.drop (i+1)):=by
 have e:((i:Int)==(l.length:Int)-1)=decide ((l.drop (i+1)).length=0):=by rw[List.length_drop,Bool.eq_iff_iff];simp only[beq_iff_eq,decide_eq_true_eq];omega
 rw[e,zD l i zJ h];rfl
theorem zaR (n m d:Nat) (L:List ByteArray) (fp:Int) (fn:ByteArray) (ps:List TPa) (fh:Bool) (re rl rb:Int) (bd:List TSt) (Ap Ab:Option Addr) (cp cb:Nat) (hmn:m≤n) (h:CkF M w q fb N K) (hN:N≤1048576) (hL:L.length≤1048576) (hs:fuSm ⟨fp,fn,ps,fh,⟨re,rl,rb⟩,bd⟩) (hp:zj zGc M M.heap.size (.slice Ap ps.length cp) ps) (hbo:zj (zM m) M M.heap.size (.slice Ab bd.length cb) bd) (hpl:∀p∈ps,p.name∈L) (hsl:∀s∈bd,stIn L d s) (hnu:∀s∈bd,z5i n s) (hb:zwP n K ⟨fp,fn,ps,fh,⟨re,rl,rb⟩,bd⟩≠.bad) :
  Calls Tryz.prog 68 #[.pointer (some ⟨q,0,none⟩),.agg #[fp,fn,.slice Ap ps.length cp,fh,re,rl,rb,.slice Ab bd.length cb]] w (zn (qfS q fb) w (RF M q fb (N+1)) (zwP n K ⟨fp,fn,ps,fh,⟨re,rl,rb⟩,bd⟩)):=by
 have HMN:=hI hmn;have HNN:=hI hN;have HLL:=hI hL;have HFS:=hI hs;have HPA:=hI hp;have HBO:=hI hbo;have HPL:=hI hpl;have HSL:=hI hsl;have HNU:=hI hnu;have HLT:=hI h.lt;have HF:=hI ((Frm.start (S:=(qfS q fb)) w (fun x e=>by have:=h.lt;rcases e with e | e <;> omega)).alloc 61 [fp,fn,.slice Ap ps.length cp,fh,re,rl,rb,.slice Ab bd.length cb]);have HK:=hI (h.below (bnew w (.cells #[fp,fn,.slice Ap ps.length cp,fh,re,rl,rb,.slice Ab bd.length cb] 61)));obtain⟨r,hr⟩:∃r,zwP n K ⟨fp,fn,ps,fh,⟨re,rl,rb⟩,bd⟩=r:=⟨_,rfl⟩
 rw[hr] at hb ⊢;have HR:=hI hr;have HNB:=hI hb;generalize hPO:zn (qfS q fb) w (RF M q fb (N+1)) r=PO;have HPO:=hI hPO;clear hr hPO hb h hmn hN hL hs hp hbo hpl hsl hnu;go_enter Tryz.func68,Tryz.ntmps68;go_upto_region 1 with (fail);generalize (w.alloc _)=v at *;generalize w.heap.size=F at HF ⊢;unfold zwP at HR;try simp only at HR
 cases hg:K fn
 case some k =>
  have hrt:=HR.o;rw[hg] at hrt;replace HR:Jd (.trap=r):=hI hrt;obtain⟨A1,c1,A2,c2,hl,_⟩:=HK.o.fnYes HFS.o.1 hg;have HL:=hI hl;clear hg hrt hl;go_upto_region 1 with (fail);refine wL (fun w'=>w'.heap[F]? = some (.cells #[fp,fn,.slice Ap ps.length cp,fh,re,rl,rb,.slice Ab bd.length cb] 61 (0,0))∧w'.cell? ⟨q,0,none⟩=some (.map (some fb))∧(Instr.lookup 143 (.map (some fb)) (.string fn) true).run Tryz.prog w'=.ok (.tuple #[.agg #[k.f.pos,k.f.name,.slice A1 k.f.params.length c1,k.f.has,k.f.res.elem,k.f.res.len,k.f.res.label,.slice A2 k.f.body.length c2,k.cost],true]) w') 99 ?_;replace HK:=hI (HK.o.below (bdr (Below.refl _ _)));replace HF:=hI HF.o.drew;have HD:=hI (bdr (Below.refl v.heap.size v));generalize v.drew=v1 at *;refine tks [(oS 0 12 (.pointer (some ⟨q,0,none⟩))),(oS 1 13 (.pointer (some ⟨q,0,none⟩))),(oS 2 14 (.pointer (some ⟨q,0,none⟩))),(oS 3 15 (.map (some fb))),(oS 4 16 (.pointer (some ⟨F,1,none⟩))),(oS 5 17 (.string fn)),(oS 6 18 (.tuple #[.agg #[k.f.pos,k.f.name,.slice A1 k.f.params.length c1,k.f.has,k.f.res.elem,k.f.res.len,k.f.res.label,.slice A2 k.f.body.length c2,k.cost],true])),(oS 7 11 (.tuple #[.agg #[k.f.pos,k.f.name,.slice A1 k.f.params.length c1,k.f.has,k.f.res.elem,k.f.res.len,k.f.res.label,.slice A2 k.f.body.length c2,k.cost],true])),(oS 8 19 (.agg #[k.f.pos,k.f.name,.slice A1 k.f.params.length c1,k.f.has,k.f.res.elem,k.f.res.len,k.f.res.label,.slice A2 k.f.body.length c2,k.cost])),(oS 9 20 (.bool true))] 3 ?_ (⟨HF.o.at_ 0 rfl,HK.o.cell0,HL.o _ HD.o⟩) ?_
  · intro wz hSz;obtain⟨hFs,hx0,hx1⟩:=hSz;have cF1:=(zz hFs 1).1;exact uKV
  try simp only[zy,zW,Act.put,pA,pB,pC,Option.getD]
  refine wone 10 fun Kz hK=>?_;go_simp;have HUZ:=hI HD.o.size;replace HF:=hI (HF.o.alloc 150 [.int .i64 0,.string ⟨#[]⟩,.slice none 0 0,false,.int .i64 0,.int .i64 0,.int .i64 0,.slice none 0 0,.int .i64 0]);replace HK:=hI (HK.o.below (bw HF));replace HD:=hI (bal HD.o (.cells #[.int .i64 0,.string ⟨#[]⟩,.slice none 0 0,false,.int .i64 0,.int .i64 0,.int .i64 0,.slice none 0 0,.int .i64 0] 150));refine hK.o _ _ (fun _=>⟨HF.o.at_ 1 rfl,HK.o.cell0,HL.o _ HD.o⟩) ?_;clear hK;generalize v1.alloc _=v2 at *;generalize v1.heap.size=U at HF HUZ ⊢;try simp only[Act.put,pA,pB,pC]
  have uf_:=frz9 (HF.o.at_ 0 rfl);have u_:=blk9 (HF.o.at_ 0 rfl);refine wone 11 fun Kz hK=>?_;go_simp;replace HK:=hI (HK.o.own HLT.o (HF.o.lo 0 rfl) (zC U [k.f.pos,k.f.name,.slice A1 k.f.params.length c1,k.f.has,k.f.res.elem,k.f.res.len,k.f.res.label,.slice A2 k.f.body.length c2,k.cost] v2 0));replace HF:=hI (HF.o.fill 0 rfl [k.f.pos,k.f.name,.slice A1 k.f.params.length c1,k.f.has,k.f.res.elem,k.f.res.len,k.f.res.label,.slice A2 k.f.body.length c2,k.cost] rfl);replace HD:=hI (z8Y HD.o HUZ.o 0 [k.f.pos,k.f.name,.slice A1 k.f.params.length c1,k.f.has,k.f.res.elem,k.f.res.len,k.f.res.label,.slice A2 k.f.body.length c2,k.cost] HD.o.size);refine hK.o _ (setL v2 U 0 [k.f.pos,k.f.name,.slice A1 k.f.params.length c1,k.f.has,k.f.res.elem,k.f.res.len,k.f.res.label,.slice A2 k.f.body.length c2,k.cost]) (fun _=>⟨HF.o.at_ 1 rfl,HK.o.cell0,HL.o _ HD.o⟩) ?_;clear hK uf_ u_;generalize setL v2 U 0 _=v3 at *;refine tks [(oS 12 5 (.bool true))] 0 ?_ (⟨HF.o.at_ 1 rfl,HK.o.cell0,HL.o _ HD.o⟩) ?_
  · intro wz hSz;obtain⟨hFs,hx0,hx1⟩:=hSz;exact uUy
  try simp only[zy,zW,Act.put,pA,pB,pC,Option.getD]
  refine wD ?_ _;have f_:=blk8 (HF.o.at_ 1 rfl);have HRT:=hI HR.o.symm;exact uF3
 rw[hg] at HR;try simp only at HR
 have HG:=hI hg;clear hg;go_upto_region 1 with (fail);refine wL (fun w'=>w'.heap[F]? = some (.cells #[fp,fn,.slice Ap ps.length cp,fh,re,rl,rb,.slice Ab bd.length cb] 61 (0,0))∧w'.cell? ⟨q,0,none⟩=some (.map (some fb))∧(Instr.lookup 143 (.map (some fb)) (.string fn) true).run Tryz.prog w'=.ok (.tuple #[.agg #[.int .i64 0,.string ⟨#[]⟩,.slice none 0 0,false,.int .i64 0,.int .i64 0,.int .i64 0,.slice none 0 0,.int .i64 0],false]) w') 99 ?_;replace HK:=hI (HK.o.below (bdr (Below.refl _ _)));replace HF:=hI HF.o.drew;generalize v.drew=v1 at *;refine tks [(oS 0 12 (.pointer (some ⟨q,0,none⟩))),(oS 1 13 (.pointer (some ⟨q,0,none⟩))),(oS 2 14 (.pointer (some ⟨q,0,none⟩))),(oS 3 15 (.map (some fb))),(oS 4 16 (.pointer (some ⟨F,1,none⟩))),(oS 5 17 (.string fn)),(oS 6 18 (.tuple #[.agg #[.int .i64 0,.string ⟨#[]⟩,.slice none 0 0,false,.int .i64 0,.int .i64 0,.int .i64 0,.slice none 0 0,.int .i64 0],false])),(oS 7 11 (.tuple #[.agg #[.int .i64 0,.string ⟨#[]⟩,.slice none 0 0,false,.int .i64 0,.int .i64 0,.int .i64 0,.slice none 0 0,.int .i64 0],false])),(oS 8 19 (.agg #[.int .i64 0,.string ⟨#[]⟩,.slice none 0 0,false,.int .i64 0,.int .i64 0,.int .i64 0,.slice none 0 0,.int .i64 0])),(oS 9 20 (.bool false))] 3 ?_ (⟨HF.o.at_ 0 rfl,HK.o.cell0,HK.o.fnNo HFS.o.1 HG.o⟩) ?_
 · intro wz hSz;obtain⟨hFs,hx0,hx1⟩:=hSz;have cF1:=(zz hFs 1).1;exact uKV
 try simp only[zy,zW,Act.put,pA,pB,pC,Option.getD]
 refine wone 10 fun Kz hK=>?_;go_simp;replace HF:=hI (HF.o.alloc 150 [.int .i64 0,.string ⟨#[]⟩,.slice none 0 0,false,.int .i64 0,.int .i64 0,.int .i64 0,.slice none 0 0,.int .i64 0]);replace HK:=hI (HK.o.below (bw HF));refine hK.o _ _ (fun _=>⟨HF.o.at_ 1 rfl,HK.o.cell0,HK.o.fnNo HFS.o.1 HG.o⟩) ?_;clear hK;generalize v1.alloc _=v2 at *;generalize v1.heap.size=U at HF ⊢;try simp only[Act.put,pA,pB,pC]
 have uf_:=frz9 (HF.o.at_ 0 rfl);have u_:=blk9 (HF.o.at_ 0 rfl);refine wone 11 fun Kz hK=>?_;go_simp;replace HK:=hI (HK.o.own HLT.o (HF.o.lo 0 rfl) (zC U [.int .i64 0,.string ⟨#[]⟩,.slice none 0 0,false,.int .i64 0,.int .i64 0,.int .i64 0,.slice none 0 0,.int .i64 0] v2 0));replace HF:=hI (HF.o.fill 0 rfl [.int .i64 0,.string ⟨#[]⟩,.slice none 0 0,false,.int .i64 0,.int .i64 0,.int .i64 0,.slice none 0 0,.int .i64 0] rfl);refine hK.o _ (setL v2 U 0 [.int .i64 0,.string ⟨#[]⟩,.slice none 0 0,false,.int .i64 0,.int .i64 0,.int .i64 0,.slice none 0 0,.int .i64 0]) (fun _=>⟨HF.o.at_ 1 rfl,HK.o.cell0,HK.o.fnNo HFS.o.1 HG.o⟩) ?_;clear hK uf_ u_;generalize setL v2 U 0 _=v3 at *;refine tks [(oS 12 5 (.bool false))] 0 ?_ (⟨HF.o.at_ 1 rfl,HK.o.cell0,HK.o.fnNo HFS.o.1 HG.o⟩) ?_
 · intro wz hSz;obtain⟨hFs,hx0,hx1⟩:=hSz;exact uUy
 try simp only[zy,zW,Act.put,pA,pB,pC,Option.getD]
 refine wD ?_ _;have f_:=blk8 (HF.o.at_ 1 rfl);go_wp2_with fail;refine (zf true rfl _ _ _).mono ?_;rintro e wz ⟨rfl,⟨hb,rfl⟩ | ⟨hb,rfl⟩⟩
 case inl=>cases hb
 clear hb;clear f_;go_upto_region 3 with (fail);refine wL (fun w'=>w'.heap[F]? = some (.cells #[fp,fn,.slice Ap ps.length cp,fh,re,rl,rb,.slice Ab bd.length cb] 61 (0,0))) 99 ?_;replace HK:=hI (HK.o.below (bdr (Below.refl _ _)));replace HF:=hI HF.o.drew;generalize v3.drew=v at *;obtain⟨hen1,hen2,hen3⟩:=HK.o.enter L ⟨fp,fn,ps,fh,⟨re,rl,rb⟩,bd⟩ (.slice Ap ps.length cp) (.slice Ab bd.length cb);simp only at hen2 hen3;have HEN1:=hI hen1;have HEN2:=hI hen2;have HEN3:=hI hen3;clear hen1 hen2 hen3;have HQF:Jd (F≠q):=hI (by have h9:=HF.o.lo 1 rfl;have:=HLT.o.1;omega);have HF1:Jd ((v.alloc (.map #[] 0)).heap[F]? = some (.cells #[fp,fn,.slice Ap ps.length cp,fh,re,rl,rb,.slice Ab bd.length cb] 61 (0,0))):=hI (((bnew v (.map #[] 0)).block F (zh (HF.o.at_ 1 rfl))).trans (HF.o.at_ 1 rfl));have HF2:Jd (((v.alloc (.map #[] 0)).setCell ⟨q,1,none⟩ (.map (some v.heap.size))).heap[F]? = some (.cells #[fp,fn,.slice Ap ps.length cp,fh,re,rl,rb,.slice Ab bd.length cb] 61 (0,0))):=hI ((Below.heap_setCell _ _ _ _ HQF.o).trans HF1.o);have HF3:Jd ((setL ((v.alloc (.map #[] 0)).setCell ⟨q,1,none⟩ (.map (some v.heap.size))) q 2 [fp,fn,.slice Ap ps.length cp,fh,re,rl,rb,.slice Ab bd.length cb]).heap[F]? = some (.cells #[fp,fn,.slice Ap ps.length cp,fh,re,rl,rb,.slice Ab bd.length cb] 61 (0,0))):=hI (((zC q [fp,fn,.slice Ap ps.length cp,fh,re,rl,rb,.slice Ab bd.length cb] ((v.alloc (.map #[] 0)).setCell ⟨q,1,none⟩ (.map (some v.heap.size))) 2).block F (zh HF2.o) (fun e=>HQF.o (Option.some.inj e))).trans HF2.o);refine zY (by kernel_rfl) (fun _ _ _ _ _ h=>h) [(0,some 26,some (.pointer (some ⟨q,0,none⟩))),(1,some 27,some (.pointer (some ⟨q,0,none⟩))),(3,some 29,some (.agg #[fp,fn,.slice Ap ps.length cp,fh,re,rl,rb,.slice Ab bd.length cb]))] 7 (by rfl) (by kernel_rfl) (by kernel_rfl) ?hv5 (HF.o.at_ 1 rfl) ?rs5
 case hv5=>intro wz hSz;have c_:=blk8 hSz;refine⟨zQ rfl ?_,zQ rfl ?_,zQ rfl ?_,trivial⟩;all_goals (simp only[Act.put,pA,pB,pC,Option.getD] <;> go_simp)
 try simp only[zy,zW,Act.put,pA,pB,pC,Option.getD]
 have hmm:=@run_makeMap Tryz.prog;refine wone 2 fun Kz hK=>?_;go_simp;refine hK.o _ (v.alloc (.map #[] 0)) (fun _=>HF1.o) ?_;clear hK;try simp only[Act.put,pA,pB,pC]
 refine zY (by kernel_rfl) (fun _ _ _ _ _ h=>h) [(4,some 30,some (.pointer (some ⟨q,0,none⟩))),(5,some 31,some (.pointer (some ⟨q,1,none⟩)))] 4 (by rfl) (by kernel_rfl) (by kernel_rfl) ?hv6 (HF1.o) ?rs6
 case hv6=>intro wz hSz;have c_:=blk8 hSz;exact uVP
 try simp only[zy,zW,Act.put,pA,pB,pC,Option.getD]
 clear hmm;obtain⟨vn,z0,z1,z2,z3,z4,z5,z6,z7,hqb⟩:=(HK.o.below (bnew v (.map #[] 0))).blk;obtain⟨q1,qf1⟩:=zz hqb 1;refine wone 6 fun Kz hK=>?_;go_simp;refine hK.o _ ((v.alloc (.map #[] 0)).setCell ⟨q,1,none⟩ (.map (some v.heap.size))) (fun _=>HF2.o) ?_;clear hK;clear q1 qf1 hqb;refine zY (by kernel_rfl) (fun _ _ _ _ _ h=>h) [(7,some 32,some (.pointer (some ⟨q,0,none⟩))),(8,some 33,some (.pointer (some ⟨q,2,none⟩)))] 1 (by rfl) (by kernel_rfl) (by kernel_rfl) ?hv7 (HF2.o) ?rs7
 case hv7=>intro wz hSz;have c_:=blk8 hSz;exact uVP
 try simp only[zy,zW,Act.put,pA,pB,pC,Option.getD]
 obtain⟨y0,y1,y2,y3,y4,y5,y6,y7,hqb⟩:=HEN1.o;obtain⟨q2,qf2⟩:=zz hqb 2;obtain⟨q3,qf3⟩:=zz hqb 3;obtain⟨q4,qf4⟩:=zz hqb 4;obtain⟨q5,qf5⟩:=zz hqb 5;obtain⟨q6,qf6⟩:=zz hqb 6;obtain⟨q7,qf7⟩:=zz hqb 7;obtain⟨q8,qf8⟩:=zz hqb 8;obtain⟨q9,qf9⟩:=zz hqb 9;refine wone 9 fun Kz hK=>?_;go_simp;refine hK.o _ (setL ((v.alloc (.map #[] 0)).setCell ⟨q,1,none⟩ (.map (some v.heap.size))) q 2 [fp,fn,.slice Ap ps.length cp,fh,re,rl,rb,.slice Ab bd.length cb]) (fun _=>HF3.o) ?_;clear hK;clear hqb q2 qf2 q3 qf3 q4 qf4 q5 qf5 q6 qf6 q7 qf7 q8 qf8 q9 qf9;refine wD ?_ _;have HNW:Jd (w.heap.size≤v.heap.size):=hI HF.o.kp.siz;have HF9:=hI (HF.o.call (HEN3.o _ (Or.inl rfl)));clear HF HK HEN1 HEN3 HF1 HF2 HF3;have HF:=hI HF9.o.tail;have HK:=HEN2;clear HF9 HEN2;generalize (setL ((v.alloc _).setCell ⟨q,1,none⟩ (.map (some v.heap.size))) q 2 [fp,fn,.slice Ap ps.length cp,fh,re,rl,rb,.slice Ab bd.length cb])=v1 at *;generalize v.heap.size=nb at HK HNW ⊢;have HR0:Jd (((zUz zN (ps.drop 0)).bind fun G=>(zxZ (fun G last s=>zE n K ⟨fp,fn,ps,fh,⟨re,rl,rb⟩,bd⟩ G last s) false G bd).bind fun r=>tIf (!fh || r.1) (.ok (zSy K fn ⟨⟨fp,fn,ps,fh,⟨re,rl,rb⟩,bd⟩,min (1+z8 n K bd) 65537⟩)))=r):=hI (by rw[List.drop_zero];exact HR.o);clear HR;obtain⟨f0,f1,f2,f3,f4,f5,f6,f7⟩:=blk8 (HF.o.at_ 0 rfl);go_wp2_with fail;clear f0 f1 f2 f3 f4 f5 f6 f7;go_loopw [37] (fun vi wr=>∃(i:Nat) (G2:TGam),i≤ps.length∧vi=.int .i64 i∧Jd (Frm (qfS q fb) w wr [(F, 61,[fp,fn,.slice Ap ps.length cp,fh,re,rl,rb,.slice Ab bd.length cb])] [])∧Jd (CkAt M wr q fb nb N L K G2 ⟨fp,fn,ps,fh,⟨re,rl,rb⟩,bd⟩)∧Jd (((zUz G2 (ps.drop i)).bind fun G=>(zxZ (fun G last s=>zE n K ⟨fp,fn,ps,fh,⟨re,rl,rb⟩,bd⟩ G last s) false G bd).bind fun r=>tIf (!fh || r.1) (.ok (zSy K fn ⟨⟨fp,fn,ps,fh,⟨re,rl,rb⟩,bd⟩,min (1+z8 n K bd) 65537⟩)))=r)) (fun vi _=>ps.length-(intOf vi).toNat)
 case atStart=>exact⟨0,zN,Nat.zero_le _,rfl,HF,HK,HR0⟩
 case round =>
  clear HF HK HR0;obtain⟨i,G2,hi,rfl,HF,HK,HR⟩:=hrel;by_cases hlt:i<ps.length
  case pos =>
   obtain⟨pb,poff,rfl,hpn,hpc⟩:=zks HPA.o i hlt;have hrt:=HR.o;rw[zt3 ps i hlt,zv9] at hrt;have hpl:=HPL.o (ps.getD i z12) (by rw[List.getD_eq_getElem?_getD,List.getElem?_eq_getElem hlt];exact List.getElem_mem hlt);generalize ps.getD i z12=a at *;obtain⟨ap,an,⟨ae,al,ab⟩,ao⟩:=a;simp only at hpc hrt hpl hpn;replace HR:=hI hrt;have HPN:=hI hpn;have HPLn:=hI hpl;have HLT1:=hI hlt;obtain⟨d0,d1,d2,d3,d4,d5⟩:=hpc wr HK.o.old;have k0:(0:Int)≤(i:Int):=by omega
   have k1:(i:Int)<(ps.length:Int):=by omega
   clear hpc hpl hpn hrt hlt hi;go_upto_region 7 with (fail);clear d0 d1 d2 d3 d4 d5 k0 k1;replace HF:=hI (HF.o.alloc 65 [ap,an,ae,al,ab,ao]);replace HK:=hI (HK.o.below (bw HF));generalize wr.alloc _=v at *;generalize wr.heap.size=P at HF ⊢;obtain⟨p0,p1,p2,p3,p4,p5⟩:=blk6 (HF.o.at_ 0 rfl);go_wp2_with fail;refine (zr5 HK.o HLL.o an HPN.o HPLn.o ae al ab (!ao) ap).mono ?_;intro e v1 hpost;rcases hpost.cases (nbL HR.o HNB.o) with⟨G3,hq,u,rfl,hR,hk⟩ | ⟨hq,E,P,rfl,hE,hk⟩
   case inr=>exact uQV
   replace HF:=hI (HF.o.callM HK.o hk HNW.o);replace HK:=hI hR;have hrt:=brO HR.o hq;try simp only at hrt
   replace HR:=hI hrt;clear hk hq hrt p0 p1 p2 p3 p4 p5;rw[zbW] at HR;cases ao
   case' false =>
    have p_:=blk6 (HF.o.at_ 0 rfl);replace HR:Jd ((tIf (decide (al≤16384)) (zUz G3 (ps.drop (i+1)))).bind _=r):=hI (ifO HR.o (by simp));go_wp2_with fail;refine (zf true rfl _ _ _).mono ?_;rintro e wz ⟨rfl,⟨hb,rfl⟩ | ⟨hb,rfl⟩⟩
    case inl=>cases hb
    clear hb;go_upto_region 9 with (fail);clear p_
   case' true =>
    have p_:=blk6 (HF.o.at_ 0 rfl);replace HR:=hI (show tIf (decide (0<al)) _=r from HR.o);go_wp2_with fail;refine (zf (decide (0<al)) rfl _ _ _).mono ?_;rintro e wz ⟨rfl,⟨hb,rfl⟩ | ⟨hb,rfl⟩⟩
    · have HRT:=hI (ifT HR.o hb);clear hb p_;exact uQp
    replace HR:=hI (ifO HR.o hb);clear hb;go_upto_region 9 with (fail);clear p_
   all_goals
    rw[zbW] at HR;have p_:=blk6 (HF.o.at_ 0 rfl);go_wp2_with fail;refine (zf (decide (al≤16384)) rfl _ _ _).mono ?_;rintro e wz ⟨rfl,⟨hb,rfl⟩ | ⟨hb,rfl⟩⟩
    · have HRT:=hI (ifT HR.o hb);clear hb p_;exact uQp
    replace HR:=hI (ifO HR.o hb);clear hb;have hz0:(0:Int)≤(i:Int):=by omega
    have hz1:(i:Int)<65537:=by have:=HLT1.o;have h9:ps.length≤65536:=HFS.o.2.1;omega
    go_wp2_with fail;go_roundw
    case rel=>exact⟨i+1,G3,HLT1.o,rfl,hI HF.o.tail,HK,HR⟩
    case measure=>simp only[intOf];have:=HLT1.o;omega
  obtain rfl:i=ps.length:=by omega
  have hrt:=HR.o;rw[List.drop_length] at hrt;have HR0:Jd (((zxZ (fun G last s=>zE n K ⟨fp,fn,ps,fh,⟨re,rl,rb⟩,bd⟩ G last s) false G2 (bd.drop 0)).bind fun r=>tIf (!fh || r.1) (.ok (zSy K fn ⟨⟨fp,fn,ps,fh,⟨re,rl,rb⟩,bd⟩,min (1+z8 n K bd) 65537⟩)))=r):=hI (by rw[List.drop_zero];exact hrt);clear hrt hi hlt HR;obtain⟨v2,hw⟩:∃w,wr=w:=⟨_,rfl⟩
  rw[hw] at HF HK ⊢;clear hw;obtain⟨f0,f1,f2,f3,f4,f5,f6,f7⟩:=blk8 (HF.o.at_ 0 rfl);go_wp2_with fail;clear f0 f1 f2 f3 f4 f5 f6 f7;go_loopw [8,9,76] (fun vr _ vi wr=>∃(i:Nat) (G2:TGam) (rb2:Bool),i≤bd.length∧vi=.int .i64 i∧vr=.bool rb2∧Jd (Frm (qfS q fb) w wr [(F, 61,[fp,fn,.slice Ap ps.length cp,fh,re,rl,rb,.slice Ab bd.length cb])] [])∧Jd (CkAt M wr q fb nb N L K G2 ⟨fp,fn,ps,fh,⟨re,rl,rb⟩,bd⟩)∧Jd (((zxZ (fun G last s=>zE n K ⟨fp,fn,ps,fh,⟨re,rl,rb⟩,bd⟩ G last s) rb2 G2 (bd.drop i)).bind fun r=>tIf (!fh || r.1) (.ok (zSy K fn ⟨⟨fp,fn,ps,fh,⟨re,rl,rb⟩,bd⟩,min (1+z8 n K bd) 65537⟩)))=r)) (fun _ _ vi _=>bd.length-(intOf vi).toNat)
  case atStart=>exact⟨0,G2,false,Nat.zero_le _,rfl,rfl,HF,HK,HR0⟩
  case round =>
   clear HF HK HR0;obtain⟨i,G3,rb2,hi,rfl,rfl,HF,HK,HR⟩:=hrel;by_cases hlt:i<bd.length
   case pos =>
    obtain⟨m2,sb,soff,Aa,ca,Ac,cc,Ae,ce,rfl,hsm,hsa,hsb,hse,hsc⟩:=z4T HBO.o i hlt;have hdi:stIn L d (bd.getD i zJ):=z8M HSL.o i hlt;rw[zEV bd i hlt,zv9] at HR;generalize bd.getD i zJ=s at *;obtain⟨ks,ps2,ms,ns,⟨te,tl,tb⟩,xs,bds,els,hs2⟩:=s;simp only[TSt.kind,TSt.pos,TSt.most,TSt.name,TSt.ty,TSt.args,TSt.body,TSt.els,TSt.has] at hsc hsa hsb hse;have HSM:=hI hsm;have HDI:=hI hdi;have HSA:=hI hsa;have HSB:=hI hsb;have HSE:=hI hse;have HLT1:=hI hlt;obtain⟨d0,d1,d2,d3,d4,d5,d6,d7,d8,d9,d10⟩:=hsc wr HK.o.old;have k0:(0:Int)≤(i:Int):=by omega
    have k1:(i:Int)<(bd.length:Int):=by omega
    clear hsm hdi hsa hsb hse hsc hlt hi;go_upto_region 15 with (fail);clear d0 d1 d2 d3 d4 d5 d6 d7 d8 d9 d10 k0 k1;replace HF:=hI (HF.o.alloc 126 [ks,ps2,ms,ns,te,tl,tb,.slice Aa xs.length ca,.slice Ac bds.length cc,.slice Ae els.length ce,hs2]);replace HK:=hI (HK.o.below (bw HF));generalize wr.alloc _=v at *;generalize wr.heap.size=Y at HF ⊢;have f_:=blk8 (HF.o.at_ 1 rfl);have y_:=z9h (HF.o.at_ 0 rfl);have k3:IntKind.i64.wrap ((bd.length:Int)-1)=(bd.length:Int)-1:=by have h9:bd.length≤65536:=HFS.o.2.2;rw[zF];unfold wrap64;omega
    go_wp2_with fail;refine ((znR M n).1 _ q fb nb N L K G3 _ ((i:Int)==(bd.length:Int)-1) ks ps2 ms ns te tl tb xs bds els hs2 Aa Ac Ae ca cc ce m2 d HK.o HLL.o HSM.o HDI.o HSA.o HSB.o HSE.o (nbL HR.o HNB.o)).mono ?_;intro e v1 hpost;rcases hpost.cases (nbL HR.o HNB.o) with⟨G4,hq,u,rfl,hR,hk⟩ | ⟨hq,E,P,rfl,hE,hk⟩
    case inr=>exact uQV
    replace HF:=hI (HF.o.callM HK.o hk HNW.o);replace HK:=hI hR;have hrt:=brO HR.o hq;try simp only at hrt
    replace HR:=hI hrt;clear hk hq hrt k3 f_ y_;have y_:=z9h (HF.o.at_ 0 rfl);have hz0:(0:Int)≤(i:Int):=by omega
    have hz1:(i:Int)<65537:=by have:=HLT1.o;have h9:bd.length≤65536:=HFS.o.2.2;omega
    go_wp2_with fail;go_roundw
    case rel=>exact⟨i+1,G4,decide (ks=8),HLT1.o,rfl,rfl,hI HF.o.tail,HK,HR⟩
    case measure=>simp only[intOf];have:=HLT1.o;omega
   obtain rfl:i=bd.length:=by omega
   have hrt:=HR.o;rw[List.drop_length] at hrt;replace HR:Jd (tIf (!fh || rb2) (.ok (zSy K fn ⟨⟨fp,fn,ps,fh,⟨re,rl,rb⟩,bd⟩,min (1+z8 n K bd) 65537⟩))=r):=hI hrt;clear hrt hi hlt;obtain⟨v,hw⟩:∃w,wr=w:=⟨_,rfl⟩
   rw[hw] at HF HK ⊢;clear hw;rcases Bool.eq_false_or_eq_true fh with hfh | hfh
   case' inr =>
    have f_:=blk8 (HF.o.at_ 0 rfl);replace HR:=hI (ifO HR.o (by simp[hfh]));go_wp2_with fail;refine (zf true rfl _ _ _).mono ?_;rintro e wz ⟨rfl,⟨hb,rfl⟩ | ⟨hb,rfl⟩⟩
    case inl=>cases hb
    clear hb;go_upto_region 19 with (fail);clear hfh;clear f_
   case' inl =>
    have f_:=blk8 (HF.o.at_ 0 rfl);replace HR:Jd (tIf rb2 (.ok (zSy K fn ⟨⟨fp,fn,ps,fh,⟨re,rl,rb⟩,bd⟩,min (1+z8 n K bd) 65537⟩))=r):=hI (by have h9:=HR.o;rw[show (!fh || rb2)=rb2 by rw[hfh];rfl] at h9;exact h9);go_wp2_with fail;refine (zf (rb2) rfl _ _ _).mono ?_;rintro e wz ⟨rfl,⟨hb,rfl⟩ | ⟨hb,rfl⟩⟩
    · have HRT:=hI (ifT HR.o hb);clear hb hfh f_;exact uQp
    replace HR:=hI (ifO HR.o hb);clear hb;go_upto_region 19 with (fail);clear hfh f_
   all_goals
    obtain⟨c0,c1⟩:=zUb (zCj.of HK.o) n bd HNU.o;obtain⟨cs9,hcs⟩:∃z,z8 n K bd=z:=⟨_,rfl⟩
    rw[hcs] at c0 c1 HR;have HCS:=hI hcs;clear hcs;have g1:IntKind.i64.wrap (1+cs9)=1+cs9:=by rw[zF];unfold wrap64;omega
    have HC0:=hI (show 0≤min (1+cs9) 65537∧min (1+cs9) 65537≤65537 by omega);clear c0 c1;refine wL (fun w'=>w'.heap[F]? = some (.cells #[fp,fn,.slice Ap ps.length cp,fh,re,rl,rb,.slice Ab bd.length cb] 61 (0,0))∧w'.cell? ⟨q,0,none⟩=some (.map (some fb))) 99 ?_;replace HK:=hI (HK.o.below (bdr (Below.refl _ _)));replace HF:=hI HF.o.drew;generalize v.drew=v at *;refine tks [(oS 0 103 (.pointer (some ⟨q,0,none⟩))),(oS 1 104 (.pointer (some ⟨q,0,none⟩))),(oS 2 105 (.pointer (some ⟨q,0,none⟩))),(oS 3 106 (.map (some fb))),(oS 4 107 (.pointer (some ⟨F,1,none⟩))),(oS 5 108 (.string fn)),(oS 6 109 (.agg #[fp,fn,.slice Ap ps.length cp,fh,re,rl,rb,.slice Ab bd.length cb])),(oS 7 110 (.pointer (some ⟨q,0,none⟩))),(oS 8 111 (.pointer (some ⟨q,0,none⟩))),(oS 9 112 (.pointer (some ⟨F,7,none⟩))),(oS 10 113 (.slice Ab bd.length cb))] 5 ?_ (⟨HF.o.at_ 0 rfl,HK.o.cell.1⟩) ?_
    · intro wz hSz;obtain⟨hFs,hx0⟩:=hSz;have cF1:=(zz hFs 1).1;have cF0:=(zz hFs 0).1;have cF2:=(zz hFs 2).1;have cF3:=(zz hFs 3).1;have cF4:=(zz hFs 4).1;have cF5:=(zz hFs 5).1;have cF6:=(zz hFs 6).1;have cF7:=(zz hFs 7).1;exact uIK
    try simp only[zy,zW,Act.put,pA,pB,pC,Option.getD]
    refine wone 11 fun Kz hK=>?_;go_simp;refine (zdK m n _ q fb nb N L K _ _ bd Ab cb HMN.o HK.o HNU.o HFS.o.2.2 HBO.o).mono ?_;rintro e v ⟨⟨u,rfl,hu⟩,hk⟩;obtain rfl:u=.int .i64 (z8 n K bd):=hu;rw[HCS.o];replace HF:=hI (HF.o.call (hk.weak (fun _ h=>h.elim)));replace HK:=hI (HK.o.below (kb hk));clear hk;refine hK.o _ _ (fun _=>⟨HF.o.at_ 0 rfl,HK.o.cell.1⟩) ?_;clear hK;try simp only[Act.put,pA,pB,pC]
    refine tks [(oS 12 115 (.int .i64 (1+cs9)))] 3 ?_ (⟨HF.o.at_ 0 rfl,HK.o.cell.1⟩) ?_
    · intro wz hSz;obtain⟨hFs,hx0⟩:=hSz;exact uUy
    try simp only[zy,zW,Act.put,pA,pB,pC,Option.getD]
    refine wone 13 fun Kz hK=>?_;go_simp;refine (zEa _ _ _).mono ?_;rintro e wz ⟨rfl,rfl⟩;refine hK.o _ _ (fun _=>⟨HF.o.at_ 0 rfl,HK.o.cell.1⟩) ?_;clear hK;try simp only[Act.put,pA,pB,pC]
    refine tks [(oS 14 117 (.agg #[fp,fn,.slice Ap ps.length cp,fh,re,rl,rb,.slice Ab bd.length cb,.int .i64 (min (1+cs9) 65537)]))] 1 ?_ (⟨HF.o.at_ 0 rfl,HK.o.cell.1⟩) ?_
    · intro wz hSz;obtain⟨hFs,hx0⟩:=hSz;exact uUy
    try simp only[zy,zW,Act.put,pA,pB,pC,Option.getD]
    obtain⟨v,hput,hk9,hg9⟩:=HK.o.putF HNN.o (show fn.size≤65536 from HFS.o.1) ⟨⟨fp,fn,ps,fh,⟨re,rl,rb⟩,bd⟩,min (1+cs9) 65537⟩ Ap cp Ab cb HPA.o HFS.o HC0.o;unfold zwp at hput;simp only at hput;refine wone 15 fun Kz hK=>?_;go_simp;replace HF:=hI (HF.o.call (zgV hg9 (Or.inr rfl)));replace HK:=hI hk9;clear hput hk9 hg9;refine hK.o _ _ (fun _=>⟨HF.o.at_ 0 rfl,HK.o.cell0⟩) ?_;clear hK;refine wD ?_ _;go_wp2_with fail;go_end0;exact zn.ok_ HPO.o HR.o HK.o HF.o.kp
end
end Go.Proofs.YtfibdoehmndinaaGreatDoor
